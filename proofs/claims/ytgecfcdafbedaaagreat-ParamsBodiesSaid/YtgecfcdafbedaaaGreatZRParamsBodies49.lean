/- The struct of all kinds of bodies: its cells, and the parameter of that type opened; The law ParamsBodies: its parameters opened, its pieces joined. -/
import Derived.Test.YtgecfcdafbedaaaGreatZRParamsBodies32
import Derived.Test.YtgecfcdafbedaaaGreatZRParamsBodies48
import Derived.Test.YtgecfcdafbedaaaGreatZRParamsBodies44
import Derived.Test.YtgecfcdafbedaaaGreatZRParamsBodies45
import Derived.Test.YtgecfcdafbedaaaGreatZRParamsBodies46
import Derived.Test.YtgecfcdafbedaaaGreatZRParamsBodies47
namespace Go.Proofs.YtgecfcdafbedaaaGreat
open Go.RowKit Go.ChangeShapes Go.WideShapes
set_option linter.unusedSimpArgs false
set_option linter.unusedVariables false

def bodC (x y : Int) (A : Option Addr) (n c : Nat) (P J C D : List Value) : List Value := [.int .u32 x, .int .u32 y, .slice A n c] ++ (P ++ (J ++ (C ++ D)))
theorem bod_parts {W : World} {B : Nat} {t : TypeId} {x y u : Int} {A : Option Addr} {n c : Nat} {P J C D : List Value} (hP : P.length = 34) (hJ : J.length = 32) (hP0 : P[0]? = some (.int .u8 u)) (h : Blk W B t (bodC x y A n c P J C D)) :
    W.cell? ⟨B, 0, none⟩ = some (.int .u32 x) ∧ W.cell? ⟨B, 1, none⟩ = some (.int .u32 y) ∧ W.cell? ⟨B, 2, none⟩ = some (.slice A n c) ∧ W.cell? ⟨B, 3, none⟩ = some (.int .u8 u) ∧
      W.rangeAt B 3 P ∧ W.rangeAt B 37 J ∧ W.rangeAt B 69 (C ++ D) ∧ W.rangeAt B 69 C := by
  have h1 := (range_two (X1 := [.int .u32 x, .int .u32 y, .slice A n c]) h.range).2
  rw [show 0 + [Value.int .u32 x, Value.int .u32 y, Value.slice A n c].length = 3 from rfl] at h1
  obtain ⟨h2, h3⟩ := range_two h1
  rw [hP] at h3
  obtain ⟨h4, h5⟩ := range_two h3
  rw [hJ] at h5
  exact ⟨h.cell 0, h.cell 1, h.cell 2, h2 0 _ hP0, h2, h4, h5, (range_two h5).1⟩
section
variable {H : Type} {enc : TypeId × Value → H} {w : World} {base : Nat} {spare : Nat → Bool} {held : Bool} {fuel : Nat} {cs : List Value} {x : DataW H × List MemPlace}
theorem cap_reach {P : Program} {t e : TypeId} {k : IntKind} (ht : P.underlying t = some (.slice e)) (he : P.underlying e = some (.int k)) (hc : P.cellsOf e = 1) (hb : 0 < P.bytesOf e)
    (h : DataW.trod enc P w 0 (fun _ => true) held fuel t cs = some x) (hx : Light P t x.1) : ∃ A n c xs, cs = [.slice A n c] ∧ Sl w k A n c xs ∧ c * P.bytesOf e ≤ 140737488351232 := by
  obtain ⟨A, n, c, xs, he1, hsl⟩ := open_sl ht he hc hb h hx
  refine ⟨A, n, c, xs, he1, hsl, ?_⟩
  rcases open_ints ht he hc h with ⟨h1, h2⟩ | ⟨a, len, cap, zs, h1, _, hl, hm, hz, rfl, hcell, hw⟩
  · rw [he1] at h1
    injection h1 with h1
    injection h1 with h1 h3 h4
    subst h4
    omega
  · rw [he1] at h1
    injection h1 with h1
    injection h1 with h1 h3 h4
    subst h4
    simp only [if_true] at hz
    have := List.all_eq_true.1 hx ((((zs.take len).length + (zs.drop len).length)) * P.bytesOf e) (by simp [DataW.weights, ht, lits])
    simp only [List.length_take, List.length_drop, hz, decide_eq_true_eq] at this
    rwa [show min len c + (c - len) = c by omega] at this
theorem two_partsB (cs : List Value) (a n k : Nat) (h : a + n = k) : (cs.drop a).take n ++ cs.drop k = cs.drop a := by
  subst h
  have := List.take_append_drop n (cs.drop a)
  rw [List.drop_drop] at this
  exact this
set_option maxRecDepth 100000 in
theorem open_puz (h : DataW.trod enc Tryz.prog w base spare held fuel 29 cs = some x) : ∃ u g bs, cs = puzP u g bs ∧ (0 ≤ u ∧ u ≤ 255) ∧ (0 ≤ g ∧ g ≤ 18446744073709551615) ∧ bs.length = 32 ∧ ∀ b ∈ bs, 0 ≤ b ∧ b ≤ 255 := by
  obtain ⟨hl, m, hp⟩ := open_struct Tryz.underlying29 h
  obtain ⟨y0, hy0, -⟩ := hp 0 _ rfl
  obtain ⟨y1, hy1, -⟩ := hp 1 _ rfl
  obtain ⟨y2, hy2, -⟩ := hp 2 _ rfl
  simp only at hy0 hy1 hy2
  obtain ⟨u, eu, wu⟩ := cell_int Tryz.underlying5 hy0
  obtain ⟨g, eg, wg⟩ := cell_int Tryz.underlying25 hy1
  obtain ⟨bs, eb, hbl, hbw⟩ := open_array_ints Tryz.underlying27 Tryz.underlying5 (by kernel_rfl) (by kernel_rfl) hy2
  rw [show Tryz.prog.cellsOf 29 = 34 by kernel_rfl] at hl
  rw [show Tryz.prog.cellsOf 5 = 1 by kernel_rfl] at eu
  rw [show Tryz.prog.cellsOf 25 = 1 by kernel_rfl] at eg
  rw [show Tryz.prog.cellsOf 27 = 32 by kernel_rfl] at eb
  have a1 : (cs.drop 2).take 32 = cs.drop 2 := List.take_of_length_le (by simp [hl])
  have e : (cs.drop 0).take 1 ++ ((cs.drop 1).take 1 ++ (cs.drop 2).take 32) = cs := by
    rw [a1, two_partsB cs 1 1 2 rfl, two_partsB cs 0 1 1 rfl]; rfl
  rw [eu, eg, eb] at e
  exact ⟨u, g, bs, e.symm, wf_bounds_u8 wu, wf_bounds_u64 wg, hbl, fun b hb => wf_bounds_u8 (hbw b hb)⟩
theorem list4 {l : List Int} (h : l.length = 4) : ∃ a b c d, l = [a, b, c, d] := by
  match l, h with
  | [a, b, c, d], _ => exact ⟨a, b, c, d, rfl⟩
set_option maxRecDepth 100000 in
theorem open_sig (h : DataW.trod enc Tryz.prog w base spare held fuel 33 cs = some x) : ∃ a b c d a' b' c' d', cs = ([a, b, c, d] ++ [a', b', c', d']).map (Value.int .u64) ∧ U64s [a, b, c, d] ∧ U64s [a', b', c', d'] := by
  obtain ⟨hl, m, hp⟩ := open_struct Tryz.underlying33 h
  obtain ⟨y0, hy0, -⟩ := hp 0 _ rfl
  obtain ⟨y1, hy1, -⟩ := hp 1 _ rfl
  simp only at hy0 hy1
  obtain ⟨f, ef, hfl, hfw⟩ := open_array_ints Tryz.underlying31 Tryz.underlying25 (by kernel_rfl) (by kernel_rfl) hy0
  obtain ⟨g, eg, hgl, hgw⟩ := open_array_ints Tryz.underlying31 Tryz.underlying25 (by kernel_rfl) (by kernel_rfl) hy1
  obtain ⟨a, b, c, d, rfl⟩ := list4 hfl
  obtain ⟨a', b', c', d', rfl⟩ := list4 hgl
  rw [show Tryz.prog.cellsOf 33 = 8 by kernel_rfl] at hl
  rw [show Tryz.prog.cellsOf 31 = 4 by kernel_rfl] at ef eg
  have a1 : (cs.drop 4).take 4 = cs.drop 4 := List.take_of_length_le (by simp [hl])
  have e : (cs.drop 0).take 4 ++ (cs.drop 4).take 4 = cs := by
    rw [a1, two_partsB cs 0 4 4 rfl]; rfl
  rw [ef, eg, ← List.map_append] at e
  exact ⟨a, b, c, d, a', b', c', d', e.symm, fun z hz => wf_bounds_u64 (hfw z hz), fun z hz => wf_bounds_u64 (hgw z hz)⟩
end
set_option maxRecDepth 100000 in
/-- A parameter of that type: its parts. -/
theorem open_bod {H : Type} {enc : TypeId × Value → H} {base : Nat} {d0 : DataW H} {p0 : List MemPlace} (v0 : Value) (w : World)
    (o0 : Value.okWide Tryz.prog w .any base 35 v0) (k0 : DataW.Trod enc Tryz.prog w 0 (fun _ => true) true 35 v0 d0 p0) (z0 : (d0.weights Tryz.prog 35).all (· ≤ reachBytes) = true) :
    ∃ (x y : Int) (A : Option Addr) (n c : Nat) (xs : List Int) (u g : Int) (bs js : List Int) (a1 a2 a3 a4 b1 b2 b3 b4 : Int), v0 = .agg (bodC x y A n c (puzP u g bs) (js.map (Value.int .u8)) ([a1, a2, a3, a4].map (Value.int .u64)) ([b1, b2, b3, b4].map (Value.int .u64))).toArray
      ∧ (Lit.int .u32 x).wf = true ∧ (Lit.int .u32 y).wf = true ∧ Sl w .u32 A n c xs ∧ c * 4 ≤ 140737488351232 ∧ (0 ≤ u ∧ u ≤ 255) ∧ (0 ≤ g ∧ g ≤ 18446744073709551615) ∧ bs.length = 32 ∧ (∀ b ∈ bs, 0 ≤ b ∧ b ≤ 255)
      ∧ js.length = 32 ∧ (∀ b ∈ js, 0 ≤ b ∧ b ≤ 255) ∧ U64s [a1, a2, a3, a4] ∧ U64s [b1, b2, b3, b4] := by
  obtain ⟨cs0, rfl, hs0⟩ := okWide_agg (.inl ⟨_, Tryz.underlying35⟩) o0
  obtain ⟨f0, hf0⟩ := k0
  obtain ⟨hl, m, hp⟩ := open_struct Tryz.underlying35 hf0
  obtain ⟨y0, hy0, -⟩ := hp 0 _ rfl
  obtain ⟨y1, hy1, -⟩ := hp 1 _ rfl
  obtain ⟨y2, hy2, L2⟩ := hp 2 _ rfl
  obtain ⟨y3, hy3, -⟩ := hp 3 _ rfl
  obtain ⟨y4, hy4, -⟩ := hp 4 _ rfl
  obtain ⟨y5, hy5, -⟩ := hp 5 _ rfl
  simp only at hy0 hy1 hy2 hy3 hy4 hy5 L2
  obtain ⟨x, ex, wx⟩ := cell_int Tryz.underlying23 hy0
  obtain ⟨y, ey, wy⟩ := cell_int Tryz.underlying23 hy1
  obtain ⟨A, n, c, xs, el, hsl, hcap⟩ := cap_reach Tryz.underlying24 Tryz.underlying73 (by kernel_rfl) (by rw [show Tryz.prog.bytesOf 73 = 4 from by kernel_rfl]; omega) hy2 (L2 z0)
  obtain ⟨u, g, bs, ep, wu, wg, hbl, hbb⟩ := open_puz hy3
  obtain ⟨js, ej, hjl, hjw⟩ := open_array_ints Tryz.underlying27 Tryz.underlying5 (by kernel_rfl) (by kernel_rfl) hy4
  obtain ⟨a1, a2, a3, a4, b1, b2, b3, b4, es, ha, hb⟩ := open_sig hy5
  obtain ⟨cs0⟩ := cs0
  simp only [Value.cells] at hl ex ey el ep ej es
  rw [show Tryz.prog.cellsOf 35 = 77 by kernel_rfl] at hl
  rw [show Tryz.prog.cellsOf 23 = 1 by kernel_rfl] at ex ey
  rw [show Tryz.prog.cellsOf 24 = 1 by kernel_rfl] at el
  rw [show Tryz.prog.cellsOf 29 = 34 by kernel_rfl] at ep
  rw [show Tryz.prog.cellsOf 27 = 32 by kernel_rfl] at ej
  rw [show Tryz.prog.cellsOf 33 = 8 by kernel_rfl] at es
  rw [show Tryz.prog.bytesOf 73 = 4 from by kernel_rfl] at hcap
  have q1 : (cs0.drop 69).take 8 = cs0.drop 69 := List.take_of_length_le (by simp [hl])
  have e : (cs0.drop 0).take 1 ++ ((cs0.drop 1).take 1 ++ ((cs0.drop 2).take 1 ++ ((cs0.drop 3).take 34 ++ ((cs0.drop 37).take 32 ++ (cs0.drop 69).take 8)))) = cs0 := by
    rw [q1, two_partsB cs0 37 32 69 rfl, two_partsB cs0 3 34 37 rfl, two_partsB cs0 2 1 3 rfl, two_partsB cs0 1 1 2 rfl, two_partsB cs0 0 1 1 rfl]; rfl
  rw [ex, ey, el, ep, ej, es] at e
  have hcs : cs0 = bodC x y A n c (puzP u g bs) (js.map (Value.int .u8)) ([a1, a2, a3, a4].map (Value.int .u64)) ([b1, b2, b3, b4].map (Value.int .u64)) := by rw [← e]; rfl
  exact ⟨x, y, A, n, c, xs, u, g, bs, js, a1, a2, a3, a4, b1, b2, b3, b4, by rw [hcs], wx, wy, hsl, hcap, wu, wg, hbl, hbb, hjl, fun b hb => wf_bounds_u8 (hjw b hb), ha, hb⟩
end Go.Proofs.YtgecfcdafbedaaaGreat

namespace Go.Proofs.YtgecfcdafbedaaaGreat
open Go.RowKit Go.ChangeShapes Go.WideShapes
set_option linter.unusedSimpArgs false
set_option linter.unusedVariables false

theorem one_byte {x : Int} (h : 0 ≤ x ∧ x ≤ 255) : ∀ y ∈ [x], 0 ≤ y ∧ y ≤ 255 := fun y hy => by
  obtain rfl := List.mem_singleton.1 hy
  exact h
set_option maxRecDepth 100000 in
theorem paramsBodies_walk {H : Type} {enc : TypeId × Value → H} {base : Nat} {d1 : DataW H} {p1 : List MemPlace} (A0 : Option Addr) (n0 c0 : Nat) (x0 : List Int) (v1 : Value) (w : World)
    (r0 : Rd w .u8 A0 n0 x0) (l0 : n0 ≤ c0) (e0 : A0 = none → c0 = 0) (m0 : c0 ≤ 140737488351232) (q0 : 0 < c0 → ∃ b off, A0 = some ⟨b, off, none⟩)
    (o1 : Value.okWide Tryz.prog w .any base 35 v1) (k1 : DataW.Trod enc Tryz.prog w 0 (fun _ => true) true 35 v1 d1 p1) (z1 : (d1.weights Tryz.prog 35).all (· ≤ reachBytes) = true) :
    Calls Tryz.prog 3 #[.slice A0 n0 c0, v1] w fun e w' => e = .returned (.bool true) ∧ Below w.heap.size w w' := by
  obtain ⟨x, y, A, n, c, xs, u, g, bs, js, a1, a2, a3, a4, b1, b2, b3, b4, rfl, wx, wy, hsl, hcap, wu, wg, hbl, hbb, hjl, hjb, ha, hb⟩ := open_bod v1 w o1 k1 z1
  have bx := wf_bounds_u32 wx
  have by' := wf_bounds_u32 wy
  have hP := puzP_len u g bs hbl
  have hJ : (js.map (Value.int .u8)).length = 32 := by rw [List.length_map]; exact hjl
  have hP0 : (puzP u g bs)[0]? = some (.int .u8 u) := rfl
  have hcell := fun W (h : Blk W w.heap.size 35 _) => bod_parts (x := x) (y := y) (A := A) (n := n) (c := c) (C := [a1, a2, a3, a4].map (Value.int .u64)) (D := [b1, b2, b3, b4].map (Value.int .u64)) hP hJ hP0 h
  obtain ⟨X, Y, E, hl1, hl2⟩ := lane_two A0 n0 c0 x0 w r0 l0 e0
  obtain ⟨ys, E2, hs1, hs2⟩ := spots_two A0 n0 c0 x0 w r0 l0 e0
  obtain ⟨Z3, E3, hz3, hp1, hp2⟩ := puz_two A0 n0 c0 x0 w r0 l0 e0
  obtain ⟨Z4, Y4, E4, hz4, hy4, ho1, ho2⟩ := sol_two A0 n0 c0 x0 w r0 l0 e0
  obtain ⟨X5, E5, hc1, hc2⟩ := cnt_two A0 n0 c0 x0 w r0 l0
  obtain ⟨Z6, E6, hz6, hn1, hn2⟩ := num_two A0 n0 c0 x0 w r0 l0 e0
  obtain ⟨Z7, E7, hz7, hu1, hu2⟩ := sum_two A0 n0 c0 x0 w r0 l0 e0
  obtain ⟨Z8, E8, hz8, hg1, hg2⟩ := sig_two A0 n0 c0 x0 w r0 l0 e0
  obtain ⟨sb, E9, ht1, ht2⟩ := putsp_two A n c xs w hsl.rd hsl.le (by have := hsl.le; omega)
  have hput := pb31_fine (w := w) (B := w.heap.size) (CS := bodC x y A n c (puzP u g bs) (js.map (Value.int .u8)) ([a1, a2, a3, a4].map (Value.int .u64)) ([b1, b2, b3, b4].map (Value.int .u64))) (bv := .slice A0 n0 c0)
    (S := ([a1, a2, a3, a4] ++ [b1, b2, b3, b4]).map (Value.int .u64)) (C := [a1, a2, a3, a4].map (Value.int .u64)) (x := x) (y := y) (P := puzP u g bs) (J := js.map (Value.int .u8))
    (fun W h => by obtain ⟨q0, q1, q2, -, q4, q5, q6, q7⟩ := hcell W h; exact ⟨q0, q1, q2, q4, q5, q6, q7⟩) hP hJ rfl rfl ht1 ht2
    (gives_rd fun W => lane_put x y W bx by') (gives_o (app_bytes (be_byte 4 x) (be_byte 4 y)) (by simp [be_length]) fun W => rplane_any x y W bx by')
    (gives_rd fun W => sol_put u g bs js W wu wg hbl hbb hjl hjb) (gives_o (app_bytes (app_bytes (app_bytes (one_byte wu) (be_byte 8 g)) hbb) hjb) (by simp [be_length, hbl, hjl]) fun W => rpsol_any u g bs js W wu wg hbl hbb hjl hjb)
    (gives_rd fun W => puz_put u g bs W wu wg hbl hbb) (gives_o (app_bytes (app_bytes (one_byte wu) (be_byte 8 g)) hbb) (by simp [be_length, hbl]) fun W => rppuz_any u g bs W wu wg hbl hbb)
    (gives_rd fun W => count_put x W bx) (gives_o (be_byte 4 x) (by simp [be_length]) fun W => rpcount_any x W bx.1 bx.2)
    (gives_rd fun W => long_put a1 a2 a3 a4 W ha) (gives_b fun W => rplong_any a1 a2 a3 a4 W ha)
    (gives_rd fun W => sum_put js W hjl hjb) (gives_o hjb (by omega) fun W => rpsum_any js W hjl hjb)
    (gives_rd fun W => sig_put a1 a2 a3 a4 b1 b2 b3 b4 W ha hb) (gives_b fun W => rpsig_any a1 a2 a3 a4 b1 b2 b3 b4 W ha hb)
  exact pb_at (n := n) (c := c) (A := A) rfl (fun W h => (hcell W h).2.2.1) hl1 hl2 (pb7_fine hs1 hs2 (pb11_fine hz3 hz4 hy4 hp1 hp2 ho1 ho2 (pb19_fine hz6 hc1 hc2 hn1 hn2 (pb25_fine hz7 hz8 hu1 hu2 hg1 hg2 hput))))
end Go.Proofs.YtgecfcdafbedaaaGreat
