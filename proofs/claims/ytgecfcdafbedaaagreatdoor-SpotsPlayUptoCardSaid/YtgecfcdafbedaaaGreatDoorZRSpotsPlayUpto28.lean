/- The document's set of spots: Change; A set of spots: Change. -/
import Derived.Test.YtgecfcdafbedaaaGreatDoorZRSpotsPlayUpto11
import Derived.Test.YtgecfcdafbedaaaGreatDoorZRSpotsPlayUpto27
import Derived.Test.YtgecfcdafbedaaaGreatDoorZRSpotsPlayUpto9
import Derived.Test.YtgecfcdafbedaaaGreatDoorZRSpotsPlayUpto25
namespace Go.Proofs.YtgecfcdafbedaaaGreatDoor
open Go.RowKit
set_option linter.unusedSimpArgs false
set_option linter.unusedVariables false

section
variable {P : Program} {ops : Array Oper} {rest : List Oper} {o : Oper} {a : Act} {w : World} {Q : Exit → Act → World → Prop}
theorem wpList_isR (h : wpList P ops Q (o :: rest) a w) : wpList P ops Q (o :: rest) a w := h
end
def rnewS (a : Int) : Rs := ⟨a, false, false, List.replicate 32 0⟩
def rnowS (l : List Rs) (a : Int) : Rs := (l.find? (isR a)).getD (rnewS a)
def rchangeL (l : List Rs) (xs : List Int) : List Rs := xs.map (rnowS l)
def rothersL (l : List Rs) (xs : List Int) : List Int := xs.filter fun a => (l.find? (isR a)).isNone
theorem rnowS_mem (l : List Rs) (a : Int) : rnowS l a ∈ l ∨ rnowS l a = rnewS a := by
  unfold rnowS
  cases hf : l.find? (isR a) with
  | none => exact .inr rfl
  | some s => exact .inl (List.mem_of_find?_eq_some hf)
theorem rnowS_at (l : List Rs) (a : Int) : (rnowS l a).at_ = a := by
  unfold rnowS
  cases hf : l.find? (isR a) with
  | none => rfl
  | some s =>
    have := List.find?_some hf
    simpa [isR] using this
theorem rnowS_sum {l : List Rs} (h : ∀ s ∈ l, s.sum.length = 32) (a : Int) : (rnowS l a).sum.length = 32 := by
  rcases rnowS_mem l a with h1 | h1
  · exact h _ h1
  · rw [h1]; simp [rnewS]
theorem info_rspt : (Tryz.prog.info? 79).map (fun i => (i.zero, i.size, i.bytes)) = some (some (.agg (rsC (rnewS 0)).toArray), 35, 40) := by kernel_rfl
theorem build_rs (a : Int) (W : World) : (Instr.build 79 #[(0, .int .u32 a)]).run Tryz.prog W = .ok (.agg (rsC (rnewS a)).toArray) W := by kernel_rfl
set_option maxRecDepth 100000 in
theorem build_rs1 (V : List Value) (h : V.length = 35) (W : World) : (Instr.buildSlice 80 1 #[(0, .agg V.toArray)]).run Tryz.prog W = .ok (.slice (some ⟨W.heap.size, 0, none⟩) 1 1) (W.alloc (.cells V.toArray 79)) := by
  obtain ⟨f, rfl⟩ := as_map V 35 h
  kernel_rfl
theorem rsC_one (s : Rs) : ∀ v ∈ rsC s, v.oneCell' = true := by
  intro v hv
  simp only [rsC, List.mem_cons, List.mem_map] at hv
  rcases hv with rfl | rfl | rfl | ⟨x, _, rfl⟩ <;> rfl
theorem own_ne_own {w : World} {b1 b2 : Nat} {e t : TypeId} {s1 s2 n m : Nat} {v u : Value} {xs ys : List Value} (h : w.ownsRow b1 e s1 v n xs) (h2 : w.ownsRow b2 t s2 u m ys) (hne : e ≠ t) : ∀ k, v.ownBlock = some k → ¬ u.ownBlock = some k := by
  intro k hk hu
  rcases h2.2 with ⟨rfl, _⟩ | ⟨g', cap, cur, rfl, _, hh, _⟩
  · simp [Value.ownBlock] at hu
  · have hg : g' = k := by simpa [Value.ownBlock] using hu
    subst hg
    exact own_blk_ne h (cs := cur.toList) (by unfold Blk; rw [hh]) hne hk
def RChangeS (w : World) (p g c : Nat) (l : List Rs) (cs : List Value) (cr : Int) (n : Nat) (xs : List Int) (e : Ending) (w' : World) : Prop :=
  (¬ SpOk n (atL xs) ∧ e = .returned (.tuple #[.slice none 0 0, .int .i64 1]) ∧ RSetAt w' p g c l cs cr ∧ Below w.heap.size w w') ∨
  (SpOk n (atL xs) ∧ ∃ A' m c' G cG cs', e = .returned (.tuple #[.slice A' m c', .int .i64 0]) ∧ Rd w' .u32 A' m (rothersL l xs) ∧ w.heap.size ≤ G ∧ RSetAt w' p G cG (rchangeL l xs) cs' cr ∧ Keeps (fun i => i = p) w w')
theorem rset_of_own {w : World} {base n c8 : Nat} {A8 : Option Addr} {L : List Rs} (h : w.ownsRow base 79 35 (.slice A8 n c8) n (flatR L)) (h0 : 0 < n) : ∃ G cs, A8 = some ⟨G, 0, none⟩ ∧ base ≤ G ∧ n ≤ c8 ∧ Blk w G 79 (flatR L ++ cs) := by
  rcases h.2 with ⟨h1, _⟩ | ⟨g, cap, cur, h1, h2, h3, h4, h5, h6, h7⟩
  · injection h1 with _ h1 _
    omega
  · injection h1 with h1 _ h8
    subst h1 h8
    refine ⟨g, cur.toList.drop (n * 35), rfl, h2, h4, ?_⟩
    rw [← h7, List.take_append_drop]
    unfold Blk
    rw [h3]
section
variable {w : World} {p g c : Nat} {l : List Rs} {cs : List Value} {cr : Int}
set_option maxRecDepth 100000 in
set_option maxHeartbeats 4000000 in
theorem rchange_any (h : RSetAt w p g c l cs cr) (A : Option Addr) (n c1 : Nat) (xs : List Int) (r : Rd w .u32 A n xs) :
    Calls Tryz.prog 17 #[.pointer (some ⟨p, 0, none⟩), .slice A n c1] w (RChangeS w p g c l cs cr n xs) := by
  have HT := Lib.hid h
  have HR := Lib.hid r
  have HPU := Lib.hid (rputspots_any A n c1 xs w r)
  clear h r
  go_enter Tryz.func17, Tryz.ntmps17
  go_wp2_with fail
  refine HPU.out.mono ?_; rintro e w1 ⟨hr, hB1⟩
  have HB1 := Lib.hid hB1
  have HT1 := Lib.hid (HT.out.below hB1)
  have HR1 := Lib.hid (HR.out.below hB1)
  clear hB1 HPU
  rcases hr with ⟨hok, A0, c0, rfl, -, -, -⟩ | ⟨hno, rfl⟩
  · have hn14 : 1 ≤ n ∧ n ≤ 4 := ⟨hok.1, hok.2.1⟩
    have HOK := Lib.hid hok
    have HXL := Lib.hid HR1.out.len
    obtain ⟨b, off, rfl, hbl, hcell⟩ := HR1.out.row (by omega)
    have HCL : Hid (∀ W, Below w1.heap.size w1 W → ∀ j a, xs[j]? = some a → W.cell? ⟨b, off + j, none⟩ = some (.int .u32 a)) := Lib.hid (fun W hW j a ha => by
      have hj : j < n := by have := (List.getElem?_eq_some_iff.1 ha).1; have := HXL.out; omega
      have := (hW.cell (p := ⟨b, off + j, none⟩) hbl).trans (hcell j hj)
      rwa [ha] at this)
    have HRB := Lib.hid hbl
    clear hok hbl hcell
    go_wp2_with fail
    go_loopw [8, 9, 10] (fun v8 v9 i wr => ∃ k m : Nat, k ≤ n ∧ i = .int .i64 (k : Int) ∧ m ≤ k ∧ (rothersL l (xs.take k)).length = m ∧ wr.ownsRow w1.heap.size 79 35 v8 k (flatR (rchangeL l (xs.take k))) ∧ wr.ownsRow w1.heap.size 23 1 v9 m ((rothersL l (xs.take k)).map (Value.int .u32)) ∧ Below w1.heap.size w1 wr) (fun _ _ i _ => n - (intOf i).toNat)
    case atStart => exact ⟨0, 0, Nat.zero_le _, rfl, Nat.le_refl _, rfl, own_nil _ _ _ _, own_nil _ _ _ _, Below.refl _ _⟩
    case round =>
      obtain ⟨k, m, hk, rfl, hmk, hm, ho8, ho9, hB⟩ := hrel
      obtain ⟨A8, c8, rfl, h8c, h8m, -⟩ := own_slice ho8
      obtain ⟨A9, c9, rfl, h9c, h9m, -⟩ := own_slice ho9
      have HO8 := Lib.hid ho8
      have HO9 := Lib.hid ho9
      have HM := Lib.hid hm
      have HBW := Lib.hid hB
      have HTW := Lib.hid (HT1.out.below hB)
      clear ho8 ho9 hm hB
      by_cases hlt : k < n
      · obtain ⟨a, ha⟩ : ∃ a, xs[k]? = some a := ⟨_, List.getElem?_eq_getElem (by rw [HXL.out]; exact hlt)⟩
        have cl := HCL.out wr HBW.out k a ha
        have htk : xs.take (k + 1) = xs.take k ++ [a] := by
          have h := (List.getElem?_eq_some_iff.1 ha).1
          rw [List.take_succ_eq_append_getElem h, (List.getElem?_eq_some_iff.1 ha).2]
        have HCH : Hid (flatR (rchangeL l (xs.take (k + 1))) = flatR (rchangeL l (xs.take k)) ++ rsC (rnowS l a)) := Lib.hid (by rw [htk, rchangeL, List.map_append, List.map_cons, List.map_nil, flatR_snoc]; rfl)
        have HOT : Hid (rothersL l (xs.take (k + 1)) = rothersL l (xs.take k) ++ if (l.find? (isR a)).isNone = true then [a] else []) := Lib.hid (by
          rw [htk, rothersL, List.filter_append]; simp only [rothersL, List.filter_cons, List.filter_nil])
        have HPL := Lib.hid (place_any HTW.out a)
        have i0 : (0 : Int) ≤ (k : Int) := by omega
        have i1 : (k : Int) < (n : Int) := by omega
        clear ha htk
        go_wp2_with fail
        refine HPL.out.mono ?_; rintro e w' ⟨hr, rfl⟩
        rcases hr with ⟨i, s, rfl, hi, hq, hp⟩ | ⟨rfl, hno⟩
        · have hfs := findG_first hi hq hp
          have hil := (List.getElem?_eq_some_iff.1 hi).1
          have hll := HTW.out.len
          have hnow : rnowS l a = s := by unfold rnowS; rw [hfs]; rfl
          rw [hnow] at HCH
          rw [hfs] at HOT
          have hrng := HTW.out.range hi
          have hsl := HTW.out.sums s (List.mem_of_getElem? hi)
          obtain ⟨CX, hCX⟩ : ∃ C, rsC s = C := ⟨_, rfl⟩
          rw [hCX] at HCH hrng
          have HRNG := Lib.hid hrng
          have HLEN : Hid (CX.length = 35) := Lib.hid (by rw [← hCX]; exact rsC_len hsl)
          have HONE : Hid (∀ v ∈ CX, v.oneCell' = true) := Lib.hid (by rw [← hCX]; exact rsC_one s)
          have HSZ : Hid ((Tryz.prog.info? 79).map (·.size) = some CX.length) := Lib.hid (by rw [HLEN.out]; exact rsize)
          have HBSL := Lib.hid (fun W => build_rs1 CX HLEN.out W)
          have HU := Lib.hid Tryz.underlying79
          have c0 := HTW.out.c0
          have hcap := HTW.out.cap
          obtain ⟨q, hqn⟩ : ∃ q, l.length = q := ⟨_, rfl⟩
          rw [hqn] at hil hll c0 hcap
          have j0 : (0 : Int) ≤ (i : Int) := by omega
          have j1 : (i : Int) < (q : Int) := by omega
          have j2 : ¬ ((i : Int) < 0) := by omega
          clear hi hq hp hfs hnow hrng hsl hCX hqn cl
          go_wp2_with (first
            | ((with_reducible refine wpList_isR (o := ⟨some 40, .load _ _, _, _, _, _⟩) ?_); refine wpList_want (v := .agg CX.toArray) (w' := _) (by rfl) (exec_loadM rfl g (i * 35) rfl CX _ HRNG.out HU.out rfl HSZ.out) ?_)
            | ((with_reducible refine wpList_isR (o := ⟨some 41, .buildSlice _ _ _, _, _, _, _⟩) ?_); refine wpList_value (o := ⟨some 41, .buildSlice 80 1 _, _, _, _, _⟩) (v := .slice (some ⟨wr.heap.size, 0, none⟩) 1 1) (w' := wr.alloc (.cells CX.toArray 79)) rfl (by unfold execOp; simp only [Act.eval, Act.put]; simp [HBSL.out]) ?_)
            |
              (at_builtin; refine append_one (W := wr) w1.heap.size rfl _ _ 80 79 (.agg (rsC (rnewS 0)).toArray) 35 40 rfl Tryz.underlying80 info_rspt rfl (by omega) (by omega) (.slice A8 k c8) k (flatR (rchangeL l (xs.take k))) CX rfl rfl HLEN.out HONE.out HO8.out HBW.out.size (by omega) ?_; intro v1 w6 ho6 hk6 _; have HO6 := Lib.hid ho6; have HK6 := Lib.hid hk6; clear ho6 hk6)
            )
          go_wp2_with fail
          go_roundw
          case rel =>
            refine ⟨k + 1, m, by omega, by go_num, by omega, by rw [HOT.out]; simpa using HM.out, by rw [HCH.out]; exact HO6.out, ?_, below_keeps HBW.out HK6.out (Nat.le_refl _) (fun i hi => (own_base HO8.out i hi).1)⟩
            rw [HOT.out]
            simpa using HK6.out.own HO9.out (own_ne_own HO9.out HO8.out (by decide))
          case measure => simp [intOf]; omega
        · have hfs := findG_no hno
          have hnow : rnowS l a = rnewS a := by unfold rnowS; rw [hfs]; rfl
          rw [hnow] at HCH
          rw [hfs] at HOT
          have HBLD := Lib.hid (fun W => build_rs a W)
          obtain ⟨CX, hCX⟩ : ∃ C, rsC (rnewS a) = C := ⟨_, rfl⟩
          rw [hCX] at HCH HBLD
          have HLEN : Hid (CX.length = 35) := Lib.hid (by rw [← hCX]; exact rsC_len (by simp [rnewS]))
          have HONE : Hid (∀ v ∈ CX, v.oneCell' = true) := Lib.hid (by rw [← hCX]; exact rsC_one _)
          have HBSL := Lib.hid (fun W => build_rs1 CX HLEN.out W)
          clear hno hfs hnow hCX
          go_upto_region 13 with (first
            | ((with_reducible refine wpList_isR (o := ⟨some 48, .build _ _, _, _, _, _⟩) ?_); refine wpList_value (o := ⟨some 48, .build 79 _, _, _, _, _⟩) (v := .agg CX.toArray) (w' := wr) rfl (by unfold execOp; simp only [Act.eval, Act.put]; simp [HBLD.out]) ?_)
            | ((with_reducible refine wpList_isR (o := ⟨some 49, .buildSlice _ _ _, _, _, _, _⟩) ?_); refine wpList_value (o := ⟨some 49, .buildSlice 80 1 _, _, _, _, _⟩) (v := .slice (some ⟨wr.heap.size, 0, none⟩) 1 1) (w' := wr.alloc (.cells CX.toArray 79)) rfl (by unfold execOp; simp only [Act.eval, Act.put]; simp [HBSL.out]) ?_)
            |
              (at_builtin; refine append_one (W := wr) w1.heap.size rfl _ _ 80 79 (.agg (rsC (rnewS 0)).toArray) 35 40 rfl Tryz.underlying80 info_rspt rfl (by omega) (by omega) (.slice A8 k c8) k (flatR (rchangeL l (xs.take k))) CX rfl rfl HLEN.out HONE.out HO8.out HBW.out.size (by omega) ?_; intro v1 w6 ho6 hk6 _; have HO6 := Lib.hid ho6; have HK6 := Lib.hid hk6; clear ho6 hk6)
            )
          have HB6 := Lib.hid (below_keeps HBW.out HK6.out (Nat.le_refl _) (fun i hi => (own_base HO8.out i hi).1))
          have HO96 := Lib.hid (HK6.out.own HO9.out (own_ne_own HO9.out HO8.out (by decide)))
          have cl6 : w6.cell? ⟨b, off + k, none⟩ = some (.int .u32 a) := by
            have hlb := World.block_lt_of_cell? _ _ cl
            simp only at hlb
            exact (HK6.out.cell (p := ⟨b, off + k, none⟩) hlb (fun h => by
              have h1 := (own_base HO8.out b h).1
              have h2 := HRB.out
              omega)).trans cl
          obtain ⟨ys, hys⟩ : ∃ ys, rothersL l (xs.take k) = ys := ⟨_, rfl⟩
          rw [hys] at HO96 HOT HM
          clear cl hys
          go_wp2_with (at_builtin; refine append_int (W := w6) w1.heap.size rfl _ _ 50 23 .u32 4 rfl Tryz.underlying50 info_spotS (by omega) (.slice A9 m c9) m ys a rfl rfl HO96.out HB6.out.size (by omega) ?_; intro v2 w7 ho7 hk7 _; have HO7 := Lib.hid ho7; have HK7 := Lib.hid hk7; clear ho7 hk7)
          go_roundw
          case rel =>
            refine ⟨k + 1, m + 1, by omega, by go_num, by omega, by rw [HOT.out]; simp [HM.out], ?_, ?_, below_keeps HB6.out HK7.out (Nat.le_refl _) (fun i hi => (own_base HO96.out i hi).1)⟩
            · rw [HCH.out]; exact HK7.out.own HO6.out (own_ne_own HO6.out HO96.out (by decide))
            · rw [HOT.out]; exact HO7.out
          case measure => simp [intOf]; omega
      · obtain rfl : k = n := by omega
        have hall : xs.take k = xs := List.take_of_length_le (by rw [HXL.out]; omega)
        rw [hall] at HO8 HO9 HM
        obtain ⟨G, cs', rfl, hG, hGc, hGb⟩ := rset_of_own HO8.out (by omega)
        have HG := Lib.hid (Nat.le_trans HB1.out.size hG)
        have HGB := Lib.hid hGb
        have HM4 := Lib.hid hmk
        have c0 := HTW.out.c0
        have fr := HTW.out.free1 0
        have HP9 : Hid ((Value.slice A9 m c9).ownBlock ≠ some p) := Lib.hid (own_blk_ne HO9.out HTW.out.set (by decide))
        have HLE : Hid ((rchangeL l xs).length = k) := Lib.hid (by rw [rchangeL, List.length_map, HXL.out])
        clear hall hG hGb
        go_wp2_with fail
        go_ret2
        refine .inr ⟨HOK.out, A9, m, c9, G, c8, cs', rfl, ?_, HG.out, ⟨?_, HGB.out.far (blk_ne HGB.out HTW.out.set (by decide)) _, ?_, by rw [HLE.out]; exact hn14, by rw [HLE.out]; exact hGc, ?_, HT.out.cred⟩, (Keeps.of_below (M := fun i => i = p) (HB1.out.trans (HBW.out.mono HB1.out.size))).then_ (M' := fun i => i = p) (Keeps.set1 wr ⟨p, 0, none⟩ _) (fun j hj => .inl hj)⟩
        · exact own_rd32 ((Keeps.set1 wr ⟨p, 0, none⟩ _).own HO9.out (fun i hi h => HP9.out (by rw [hi, h]))) (fun x hx => wf_bounds_u32 (HR1.out.wf x (List.mem_filter.1 hx).1)) (by have := HM4.out; omega)
        · rw [HLE.out]; exact HTW.out.set.put 0 _
        · intro s hs
          obtain ⟨a, ha, rfl⟩ := List.mem_map.1 hs
          exact rnowS_sum HT.out.sums a
        · intro s hs
          obtain ⟨a, ha, rfl⟩ := List.mem_map.1 hs
          rw [rnowS_at]
          exact wf_bounds_u32 (HR1.out.wf a ha)
  · have HNO := Lib.hid hno
    clear hno
    go_wp2_with fail
    go_ret2
    exact .inl ⟨HNO.out, rfl, HT1.out, HB1.out⟩
end
end Go.Proofs.YtgecfcdafbedaaaGreatDoor

namespace Go.Proofs.YtgecfcdafbedaaaGreatDoor
open Go.RowKit
set_option linter.unusedSimpArgs false
set_option linter.unusedVariables false

/-- What becomes of a spot of a new list. -/
def nowS (l : List Spt) (a : Int) : Spt := (l.find? (isAt a)).getD ⟨a, 1, none⟩
def changeL (l : List Spt) (xs : List Int) : List Spt := xs.map (nowS l)
def othersL (l : List Spt) (xs : List Int) : List Int := xs.filter fun a => (l.find? (isAt a)).isNone
theorem nowS_mem (l : List Spt) (a : Int) : nowS l a ∈ l ∨ nowS l a = ⟨a, 1, none⟩ := by
  unfold nowS
  cases h : l.find? (isAt a) with
  | none => exact .inr rfl
  | some s => exact .inl (List.mem_of_find?_eq_some h)
theorem nowS_at (l : List Spt) (a : Int) : (nowS l a).at_ = a := by
  unfold nowS
  cases h : l.find? (isAt a) with
  | none => rfl
  | some s =>
    have := List.find?_some h
    simpa [isAt] using this
theorem makeS1 (W : World) : (Instr.makeSlice 75 (.int .i64 ((1 : Nat) : Int)) (.int .i64 ((1 : Nat) : Int))).run Tryz.prog W = .ok (.slice (some ⟨W.heap.size, 0, none⟩) 1 1) (W.alloc (.cells (rowS (List.replicate 1 ⟨0, 0, none⟩)).toArray 74)) := by kernel_rfl
theorem makeS2 (W : World) : (Instr.makeSlice 75 (.int .i64 ((2 : Nat) : Int)) (.int .i64 ((2 : Nat) : Int))).run Tryz.prog W = .ok (.slice (some ⟨W.heap.size, 0, none⟩) 2 2) (W.alloc (.cells (rowS (List.replicate 2 ⟨0, 0, none⟩)).toArray 74)) := by kernel_rfl
theorem makeS3 (W : World) : (Instr.makeSlice 75 (.int .i64 ((3 : Nat) : Int)) (.int .i64 ((3 : Nat) : Int))).run Tryz.prog W = .ok (.slice (some ⟨W.heap.size, 0, none⟩) 3 3) (W.alloc (.cells (rowS (List.replicate 3 ⟨0, 0, none⟩)).toArray 74)) := by kernel_rfl
theorem makeS4 (W : World) : (Instr.makeSlice 75 (.int .i64 ((4 : Nat) : Int)) (.int .i64 ((4 : Nat) : Int))).run Tryz.prog W = .ok (.slice (some ⟨W.heap.size, 0, none⟩) 4 4) (W.alloc (.cells (rowS (List.replicate 4 ⟨0, 0, none⟩)).toArray 74)) := by kernel_rfl
theorem run_makeS (n : Nat) (h : 1 ≤ n ∧ n ≤ 4) (W : World) : (Instr.makeSlice 75 (.int .i64 (n : Int)) (.int .i64 (n : Int))).run Tryz.prog W = .ok (.slice (some ⟨W.heap.size, 0, none⟩) n n) (W.alloc (.cells (rowS (List.replicate n ⟨0, 0, none⟩)).toArray 74)) := by
  have h4 : n = 1 ∨ n = 2 ∨ n = 3 ∨ n = 4 := by omega
  rcases h4 with rfl | rfl | rfl | rfl
  · exact makeS1 W
  · exact makeS2 W
  · exact makeS3 W
  · exact makeS4 W
theorem splice_rowS (L : List Spt) (j : Nat) (s : Spt) (hj : j < L.length) : splice (rowS L) (3 * j) (spC s) = rowS (L.set j s) := by
  induction L generalizing j with
  | nil => simp at hj
  | cons x L ih =>
    cases j with
    | zero =>
      simp [splice, rowS, spC]
    | succ j =>
      have := ih j (by simpa using hj)
      rw [List.set_cons_succ, rowS, rowS, ← this]
      have e : 3 * (j + 1) = (spC x).length + 3 * j := by simp [spC]; omega
      simp only [splice]
      rw [e, List.take_length_add_append, Nat.add_assoc, List.drop_length_add_append]
      simp only [List.append_assoc]
section
variable {P : Program} {ops : Array Oper} {rest : List Oper} {o : Oper} {a : Act} {w : World} {Q : Exit → Act → World → Prop}
theorem wpList_isS (h : wpList P ops Q (o :: rest) a w) : wpList P ops Q (o :: rest) a w := h
theorem wpList_makeS (hgd : o.guard = none) (x y : Operand) (ho : o.op = .makeSlice 75 x y) (n : Nat) (hn : 1 ≤ n ∧ n ≤ 4) (hx : a.eval x = .int .i64 (n : Int)) (hy : a.eval y = .int .i64 (n : Int))
    (h : ∀ w', Hid (Blk w' w.heap.size 74 (rowS (List.replicate n ⟨0, 0, none⟩))) → Hid (Below w.heap.size w w') → wpList Tryz.prog ops Q rest (a.put o.dst (.slice (some ⟨w.heap.size, 0, none⟩) n n)) w') : wpList Tryz.prog ops Q (o :: rest) a w :=
  wpList_value hgd (by unfold execOp; simp only [ho, hx, hy, Sem.run_bind, run_makeS n hn w, Result.andThen_ok]; rfl) (h _ (Lib.hid (Blk.new w 74 _)) (Lib.hid (new_belowS w _)))
/-- A spot is written into a row of spots. -/
theorem wpList_putS (hgd : o.guard = none) (x y : Operand) (ho : o.op = .store 74 x y) (G k off : Nat) (L : List Spt) (s : Spt) (hx : a.eval x = .pointer (some ⟨G, off, none⟩)) (hoff : off = 3 * k) (hy : a.eval y = .agg (spC s).toArray) (hk : Blk w G 74 (rowS L)) (hl : k < L.length)
    (h : ∀ w', Hid (Blk w' G 74 (rowS (L.set k s))) → Hid (Keeps (· = G) w w') → wpList Tryz.prog ops Q rest (a.put o.dst undef) w') : wpList Tryz.prog ops Q (o :: rest) a w := by
  have hf : off + (spC s).length ≤ (rowS L).length := by rw [rowS_len]; simp [spC]; omega
  refine wpList_store_mid hgd 74 x y ho G off (spC s).toArray hx hy (hk.there off _ (by simpa using hf)) (by rw [size_spt]; rfl) (by simp [spC, Value.oneCell', sumV]) ?_
  refine h _ (Lib.hid ?_) (Lib.hid (Keeps.setCells (g := G) _ off _))
  have := hk.setCells (spC s) off w _ hf
  rwa [hoff, splice_rowS L k s hl, ← hoff] at this
end
end Go.Proofs.YtgecfcdafbedaaaGreatDoor
