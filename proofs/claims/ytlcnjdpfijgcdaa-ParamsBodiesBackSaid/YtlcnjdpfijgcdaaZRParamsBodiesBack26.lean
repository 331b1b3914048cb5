/- The walk over params.GetSpots, of any bytes; Arrays of whole numbers, compared. -/
import Derived.Test.YtlcnjdpfijgcdaaZRParamsBodiesBack22
import Derived.Test.YtlcnjdpfijgcdaaZRParamsBodiesBack19
import Derived.Test.YtlcnjdpfijgcdaaZRParamsBodiesBack25
import Derived.Test.YtlcnjdpfijgcdaaZRParamsBodiesBack0
import Derived.Stop.BytesEq
namespace Go.Proofs.Ytlcnjdpfijgcdaa
open Go.RowKit Go.Shelf
set_option linter.unusedSimpArgs false
set_option linter.unusedVariables false

/-- The spots that bytes tell. -/
def rd4 (bs : List Int) (k : Nat) : Int := told ((bs.drop (1 + 4 * k)).take 4)
def spList (bs : List Int) (m : Nat) : List Int := (List.range m).map (rd4 bs)
theorem spList_succ (bs : List Int) (m : Nat) : spList bs (m + 1) = spList bs m ++ [rd4 bs m] := by simp [spList, List.range_succ]
theorem spList_len (bs : List Int) (m : Nat) : (spList bs m).length = m := by simp [spList]
/-- The bytes tell how many spots there are, and as many follow, and these may be. -/
def GsOk (bs : List Int) (n m : Nat) : Prop := m ≤ 4 ∧ bs[0]?.getD 0 = (m : Int) ∧ n = 1 + 4 * m ∧ SpOk m (atL (spList bs m))
/-- What GetSpots answers. -/
def SpGot (w : World) (bs : List Int) (n : Nat) (e : Ending) (w' : World) : Prop :=
  ((∃ m g, GsOk bs n m ∧ w.heap.size ≤ g ∧ e = .returned (.tuple #[.slice (some ⟨g, 0, none⟩) m m, .int .i64 0]) ∧ Rd w' .u32 (some ⟨g, 0, none⟩) m (spList bs m)) ∨ ((¬ ∃ m, GsOk bs n m) ∧ e = .returned (.tuple #[.slice none 0 0, .int .i64 4]))) ∧ Below w.heap.size w w'
theorem rd4_bound {bs : List Int} (hb : ∀ x ∈ bs, 0 ≤ x ∧ x ≤ 255) (k : Nat) : 0 ≤ rd4 bs k ∧ rd4 bs k ≤ 4294967295 := by
  have h := told_lt (l := (bs.drop (1 + 4 * k)).take 4) (m := 4) (fun x hx => hb x (List.mem_of_mem_drop (List.mem_of_mem_take hx))) (by simp; omega)
  have e : pow256 4 = 4294967296 := by decide
  unfold rd4
  omega
theorem wf_of_u32 {x : Int} (h : 0 ≤ x ∧ x ≤ 4294967295) : (Lit.int .u32 x).wf = true := by
  simp only [Lit.wf, Bool.and_eq_true, decide_eq_true_eq]
  exact h
theorem rd_ownS {w : World} {base n g c : Nat} {xs : List Int} (h : w.ownsRow base 101 1 (.slice (some ⟨g, 0, none⟩) n c) n (xs.map (Value.int .u32))) (hb : ∀ x ∈ xs, 0 ≤ x ∧ x ≤ 4294967295) (hl : xs.length = n) (hn : n ≤ 140737488351232) : Rd w .u32 (some ⟨g, 0, none⟩) n xs := by
  refine ⟨hl, hn, fun x hx => wf_of_u32 (hb x hx), fun h0 => ?_⟩
  obtain ⟨g', c', e, _, _, hr⟩ := rowF_of_own h h0 hl
  injection e with e1 e2 e3
  injection e1 with e1
  injection e1 with e1
  subst e1
  exact ⟨g, 0, rfl, hr.lt, fun j hj => by rw [Nat.zero_add]; exact hr.cell hj⟩
set_option maxRecDepth 100000 in
set_option maxHeartbeats 8000000 in
theorem getspots_any (A : Option Addr) (n c : Nat) (bs : List Int) (w : World) (r : Rd w .u8 A n bs) (l : n ≤ c) (hz : A = none → c = 0) :
    Calls Try.prog 21 #[.slice A n c] w (SpGot w bs n) := by
  have hbig := r.big
  have hby := rd_bytes r
  have HBY := Lib.hid hby
  have HR := Lib.hid r
  by_cases hn0 : n = 0
  · have HNO : Hid (¬ ∃ m, GsOk bs n m) := Lib.hid (fun ⟨m, h⟩ => by have := h.2.2.1; omega)
    have f1 : ((n : Int) == 0) = true := by simp [hn0]
    clear hn0 r hby
    go_enter Try.func21, Try.ntmps21
    go_wp2_with fail
    go_ret2
    exact ⟨.inr ⟨HNO.out, rfl⟩, Below.refl _ _⟩
  · obtain ⟨b, off, rfl, hb, hc⟩ := r.row (by omega)
    have c0 := hc 0 (by omega)
    rw [Nat.add_zero] at c0
    have hx0 : (0 : Int) ≤ bs[0]?.getD 0 ∧ bs[0]?.getD 0 ≤ (255 : Int) := wf_bounds_u8 (r.mem (j := 0) (by omega))
    obtain ⟨m, hm⟩ : ∃ m : Nat, bs[0]?.getD 0 = (m : Int) := ⟨(bs[0]?.getD 0).toNat, by omega⟩
    rw [hm] at c0 hx0
    have HM := Lib.hid hm
    have f1 : ((n : Int) == 0) = false := by simp; omega
    have i0 : (0 : Int) < (n : Int) := by omega
    have i1 : 0 < n := by omega
    by_cases h4 : (4 : Int) < (m : Int)
    · have HNO : Hid (¬ ∃ m, GsOk bs n m) := Lib.hid (fun ⟨m', h⟩ => by have h1 := h.1; have h2 := h.2.1; rw [HM.out] at h2; omega)
      have h4b : 4 < m := by omega
      clear hn0 r hby hc hm
      go_enter Try.func21, Try.ntmps21
      go_wp2_with fail
      go_ret2
      exact ⟨.inr ⟨HNO.out, rfl⟩, Below.refl _ _⟩
    · have h4f : ((4 : Int) < (m : Int)) = False := eq_false h4
      have h4g : (4 < m) = False := eq_false (by omega)
      have wm1 : IntKind.i64.wrap (m : Int) = (m : Int) := IntWalk.i64_in _ (by omega)
      have wm2 : IntKind.i64.wrap (4 * (m : Int)) = 4 * (m : Int) := IntWalk.i64_in _ (by omega)
      have wm3 : IntKind.i64.wrap (1 + 4 * (m : Int)) = ((1 + 4 * m : Nat) : Int) := by rw [IntWalk.i64_in _ (by omega)]; omega
      by_cases hn : n = 1 + 4 * m
      · have f2 : ((n : Int) != ((1 + 4 * m : Nat) : Int)) = false := by simp [hn]
        have f3 : ((n : Int) != 1 + 4 * (m : Int)) = false := by simp; omega
        have HN := Lib.hid (show n = 1 + 4 * m ∧ m ≤ 4 by omega)
        clear hn0 r hby hc hm h4 hn hx0
        go_enter Try.func21, Try.ntmps21
        go_wp2_with fail
        go_loopg [2, 4] m (fun gas s2 s4 wr => ∃ k : Nat, m - k = gas ∧ k ≤ m ∧ s4 = .int .i64 ((1 + 4 * k : Nat) : Int) ∧ wr.ownsRow w.heap.size 101 1 s2 k ((spList bs k).map (Value.int .u32)) ∧ Below w.heap.size w wr)
        case atStart => exact ⟨0, rfl, Nat.zero_le _, rfl, ⟨rfl, .inl ⟨rfl, rfl⟩⟩, Below.refl _ _⟩
        case round =>
          obtain ⟨k, rfl, hk, rfl, hO, hB⟩ := hrel
          have hO0 := hO
          obtain ⟨A2, c2, rfl, hc2, -, -⟩ := own_slice hO0
          have HO := Lib.hid hO
          have HB := Lib.hid hB
          have HC2 := Lib.hid hc2
          clear hO0 hc2
          obtain ⟨p, hp⟩ : ∃ p, 1 + 4 * k = p := ⟨_, rfl⟩
          rw [hp]
          have HP := Lib.hid hp
          have HKM := Lib.hid hk
          by_cases hlt : (p : Int) < (n : Int)
          · obtain ⟨A', q1, q2, q3⟩ := slice_from (some ⟨b, off, none⟩) n c p (by omega) l hz
            have hwp : IntKind.i64.wrap ((p : Int) + 4) = ((1 + 4 * (k + 1) : Nat) : Int) := by rw [IntWalk.i64_in _ (by omega)]; omega
            have hkm : k < m := by have := HN.out; omega
            have hr4 := q2 wr bs (HR.out.below hB)
            have hb4 := rd4_bound HBY.out k
            have hf := four_any A' (n - p) (c - p) (bs.drop p) (rd4 bs k) wr hr4 (by omega) (by have := HN.out; omega) (by rw [← hp]; rfl) hb4.1 hb4.2
            have HF := Lib.hid hf
            have HNX := Lib.hid (spList_succ bs k)
            have HKM2 := Lib.hid (show k + 1 ≤ m ∧ m - (k + 1) < m - k by omega)
            have HK4 := Lib.hid (show (k + 1) * 4 ≤ 140737488355328 ∧ k + 1 ≤ 5 by have := HN.out; omega)
            clear hO hB hp hk q2 q3 hr4 hb4 hf hkm
            go_wp2_with fail
            refine HF.out.mono ?_; rintro e w3 ⟨rfl, hB3⟩
            have HO3 := Lib.hid ((Keeps.of_below (M := fun _ => False) hB3).own HO.out (fun _ _ hf => hf))
            have HB3 := Lib.hid (HB.out.trans (hB3.mono HB.out.size))
            obtain ⟨z, hz4⟩ : ∃ z, rd4 bs k = z := ⟨_, rfl⟩
            have HZ4 := Lib.hid hz4
            rw [hz4]
            clear hB3 hz4
            go_wp2_with (at_builtin; refine append_int (W := w3) w.heap.size rfl _ _ 23 101 .u32 4 rfl Try.underlying23 info_spot (by omega) (.slice A2 k c2) k (spList bs k) z rfl rfl HO3.out HB3.out.size (by have := HK4.out; omega) ?_; intro v4 w4 ho4 hk4 _)
            have HB4 := Lib.hid (below_own HB3.out hk4 HO3.out)
            have HO4 : Hid (w4.ownsRow w.heap.size 101 1 v4 (k + 1) ((spList bs (k + 1)).map (Value.int .u32))) := Lib.hid (by rw [HNX.out, HZ4.out]; exact ho4)
            clear ho4 hk4
            go_wp2_with fail
            go_roundg (m - (k + 1))
            case rel => exact ⟨k + 1, rfl, HKM2.out.1, (by go_num), HO4.out, HB4.out⟩
            case measure => exact HKM2.out.2
          · have hltf : ((p : Int) < (n : Int)) = False := eq_false hlt
            obtain rfl : k = m := by have := HN.out; omega
            have HRS : Hid (Rd wr .u32 A2 k (spList bs k)) := by
              rcases Nat.eq_zero_or_pos k with h0 | h0
              · subst h0
                exact Lib.hid ⟨rfl, by omega, fun x hx => by simp [spList] at hx, fun h => by omega⟩
              · have h1 := hO
                obtain ⟨g, cap, e, _, _, _⟩ := rowF_of_own h1 h0 (spList_len bs k)
                injection e with e1 e2 e3
                subst e1
                exact Lib.hid (rd_ownS h1 (fun x hx => by
                  simp only [spList, List.mem_map] at hx
                  obtain ⟨i, _, rfl⟩ := hx
                  exact rd4_bound HBY.out i) (spList_len bs k) (by have := HN.out; omega))
            have HPS := Lib.hid (putspots_any A2 k c2 (spList bs k) wr HRS.out HC2.out (by have := HN.out; omega))
            clear hO hB hp hk hlt
            go_wp2_with fail
            refine HPS.out.mono ?_; rintro e w5 ⟨⟨hok, g5, hg5, rfl, hk5⟩ | ⟨hno, rfl⟩, hB5⟩
            · have hk0 : 0 < k := hok.1
              have HGO : Hid (GsOk bs n k) := Lib.hid ⟨HN.out.2, HM.out, HN.out.1, hok⟩
              have ho := HO.out
              obtain ⟨g, cap, e, hcap, hg, _⟩ := rowF_of_own ho hk0 (spList_len bs k)
              injection e with e1 e2 e3
              subst e1
              have HG := Lib.hid hg
              have HRF := Lib.hid (HRS.out.below hB5)
              have HBF := Lib.hid (HB.out.trans (hB5.mono HB.out.size))
              clear hok hg5 hk5 hB5 ho hcap hg e3 hk0
              go_wp2_with fail
              refine (clipS_all (some ⟨g, 0, none⟩) k c2 w5 HC2.out).mono ?_; rintro e w6 ⟨rfl, rfl⟩
              go_wp2_with fail
              go_ret2
              exact ⟨.inl ⟨k, g, HGO.out, HG.out, rfl, HRF.out⟩, HBF.out⟩
            · have HNO : Hid (¬ ∃ m, GsOk bs n m) := Lib.hid (fun ⟨m', h⟩ => by
                have h2 := h.2.1
                rw [HM.out] at h2
                obtain rfl : m' = k := by omega
                exact hno h.2.2.2)
              have HBF := Lib.hid (HB.out.trans (hB5.mono HB.out.size))
              clear hno hB5
              go_wp2_with fail
              go_ret2
              exact ⟨.inr ⟨HNO.out, rfl⟩, HBF.out⟩
      · have f2 : ((n : Int) != ((1 + 4 * m : Nat) : Int)) = true := by simp; omega
        have f3 : ((n : Int) != 1 + 4 * (m : Int)) = true := by simp; omega
        have HNO : Hid (¬ ∃ m, GsOk bs n m) := Lib.hid (fun ⟨m', h⟩ => by
          have h2 := h.2.1
          have h3 := h.2.2.1
          rw [HM.out] at h2
          exact hn (by omega))
        clear hn0 r hby hc hm h4 hn
        go_enter Try.func21, Try.ntmps21
        go_wp2_with fail
        go_ret2
        exact ⟨.inr ⟨HNO.out, rfl⟩, Below.refl _ _⟩
end Go.Proofs.Ytlcnjdpfijgcdaa

namespace Go.Proofs.Ytlcnjdpfijgcdaa
open Go.RowKit
set_option linter.unusedSimpArgs false
set_option linter.unusedVariables false
theorem all_range_int : ∀ (xs ys : List Int), xs.length = ys.length → (List.range xs.length).all (fun i => xs.getD i 0 == ys.getD i 0) = (xs == ys)
  | [], [], _ => rfl
  | x :: xs, y :: ys, h => by
    have ih := all_range_int xs ys (by simpa using h)
    simp only [List.length_cons, List.range_succ_eq_map, List.all_cons, List.all_map, List.getD_cons_zero]
    have : ((List.range xs.length).all ((fun i => (x :: xs).getD i 0 == (y :: ys).getD i 0) ∘ Nat.succ)) = (List.range xs.length).all (fun i => xs.getD i 0 == ys.getD i 0) := by
      congr 1
    rw [this, ih]
    simp [List.cons_beq_cons]
  | [], _ :: _, h => by simp at h
  | _ :: _, [], h => by simp at h
section
variable {P : Program} (w : World)
theorem run_equalIn_ints (d : Nat) (t e : TypeId) (n : Nat) (k : IntKind) (ht : P.underlying t = some (.array n e)) (he : P.underlying e = some (.int k)) (hsz : ∀ w, (sizeOf e).run P w = .ok 1 w)
    (xs ys : List Int) (hx : xs.length = n) (hy : ys.length = n) :
    (Op.equalIn (d + 2) t (.agg (xs.map (Value.int k)).toArray) (.agg (ys.map (Value.int k)).toArray)).run P w = .ok (xs == ys) w := by
  rw [← all_range_int xs ys (hx.trans hy.symm), hx, List.range_eq_range', Op.equalIn]
  simp only [Sem.run_bind, run_underlying ht, Result.andThen_ok, hsz, Std.Legacy.Range.forIn_eq_forIn_range', Std.Legacy.Range.size, Nat.sub_zero, Nat.add_sub_cancel, Nat.div_one]
  have hl : ∀ i ∈ List.range' 0 n 1, i < n := fun i hi => by simpa using (List.mem_range'_1.1 hi).2
  generalize List.range' 0 n 1 = l at hl ⊢
  induction l with
  | nil => simp
  | cons i l ih =>
    have hi : i < n := hl i (by simp)
    have px : (part e (xs.map (Value.int k)).toArray (i * 1)).run P w = .ok (Value.int k (xs.getD i 0)) w := by
      simp [part, isAgg, run_underlying he, List.getD, List.getElem?_eq_getElem (show i < xs.length by omega)]
    have py : (part e (ys.map (Value.int k)).toArray (i * 1)).run P w = .ok (Value.int k (ys.getD i 0)) w := by
      simp [part, isAgg, run_underlying he, List.getD, List.getElem?_eq_getElem (show i < ys.length by omega)]
    have pe : (Op.equalIn (d + 1) e (Value.int k (xs.getD i 0)) (Value.int k (ys.getD i 0))).run P w = .ok (xs.getD i 0 == ys.getD i 0) w := by
      rw [run_equalIn_int w d e k k _ _ he]
      first | done | simp
    simp only [List.forIn_cons, Sem.run_bind, px, py, pe, Result.andThen_ok, List.all_cons]
    cases hb : (xs.getD i 0 == ys.getD i 0)
    · simp
    · simp only [Bool.not_true, Bool.false_eq_true, if_false, Sem.run_pure, Result.andThen_ok, Bool.true_and]
      exact ih fun j hj => hl j (by simp [hj])
end
end Go.Proofs.Ytlcnjdpfijgcdaa
