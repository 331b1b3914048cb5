/- slices.Grow of bytes; The walks over slices.Grow at nil and slices.Concat at bytes. -/
import Derived.Test.YtadpgodmkodgdaaXRGuidesRoom5
import Derived.Test.YtadpgodmkodgdaaXRGuidesRoom22
import Derived.Lib.AppendZeros
namespace Go.Proofs.Ytadpgodmkodgdaa
open Go.RowKit
set_option linter.unusedSimpArgs false
set_option linter.unusedVariables false

/-- A new row of bytes with room for so many. -/
def Roomy (base : Nat) (w : World) (k room : Nat) (cs : List Int) (e : Ending) (w' : World) : Prop :=
  ∃ g cap, base ≤ g ∧ g < w'.heap.size ∧ k + room ≤ cap ∧ e = .returned (.slice (some ⟨g, 0, none⟩) k cap) ∧ w'.ownsRow base 5 1 (.slice (some ⟨g, 0, none⟩) k cap) k (cs.map (Value.int .u8)) ∧ Below base w w'

set_option maxRecDepth 100000 in
set_option maxHeartbeats 1000000 in
theorem grow_any (base g k n : Nat) (cs : List Int) (w : World) (hl : cs.length = k) (hb : base ≤ g) (hbw : base ≤ w.heap.size) (hg : Blk w g 5 (cs.map (Value.int .u8))) (hk : k ≤ 70368744177664) (hn : n ≤ 70368744177664) :
    Calls Try.prog 68 #[.slice (some ⟨g, 0, none⟩) k k, .int .i64 n] w (Roomy base w k n cs) := by
  by_cases hn0 : n = 0
  · subst hn0
    have hown : w.ownsRow base 5 1 (.slice (some ⟨g, 0, none⟩) k k) k (cs.map (Value.int .u8)) :=
      ⟨by simp [hl], .inr ⟨g, k, _, rfl, hb, hg, Nat.le_refl _, by unfold maxLen; omega, by simp [hl], List.take_of_length_le (by simp [hl])⟩⟩
    have HR : Hid (Roomy base w k 0 cs (.returned (.slice (some ⟨g, 0, none⟩) k k)) w) := Lib.hid ⟨g, k, hb, hg.lt, Nat.le_refl _, rfl, hown, Below.refl _ _⟩
    clear hown
    go_enter Try.func68, Try.ntmps68
    go_wp2_with fail
    go_ret
    exact HR.out
  · obtain ⟨i0, hi, hzz⟩ := Option.map_eq_some_iff.1 info_u8n
    simp only [Prod.mk.injEq] at hzz
    obtain ⟨hz0, hz1, hz2⟩ := hzz
    have hold : (Builtin.firstCells i0.size k (.slice (some ⟨g, 0, none⟩) k k)).run Try.prog w.drew = .ok (cs.map (Value.int .u8)).toArray w.drew :=
      run_firstCells_some w.drew i0.size k ⟨g, 0, none⟩ k k (cs.map (Value.int .u8)) (by rw [hz1]; simp [hl]) (fun j v hj => by
        have ha : (⟨g, 0, none⟩ : Addr).add j = ⟨g, j, none⟩ := by unfold Addr.add; split <;> simp_all
        rw [ha]
        exact (hg.cell j).trans hj)
    have happ : ∀ ty, (Builtin.append_ #[49, 3] ty #[.slice (some ⟨g, 0, none⟩) k k, .int .i64 n]).run Try.prog w =
        .ok (.slice (some ⟨w.heap.size, 0, none⟩) (k + n) (grownCap w (k + n) k 5)) (w.drew.alloc (.cells ((cs.map (Value.int .u8)).toArray ++ Builtin.zeroCells (Value.int .u8 0).cells n ++ Builtin.zeroCells (Value.int .u8 0).cells (grownCap w (k + n) k 5 - (k + n))) 5)) := fun ty =>
      Lib.run_append_grow_zeros w 49 3 ty 5 i0 (.int .u8 0) .i64 .i64 Try.underlying49 Try.underlying3 hi hz0 (some ⟨g, 0, none⟩) k k _ hold n (by omega) (by rw [hz1]; omega) (by omega) (by omega)
        (by rw [hz2]; omega) (by rw [hz2]; exact growslice_fits (by omega) (by omega))
    have hG : k + n ≤ grownCap w (k + n) k 5 := grownCap_ge w _ _ _
    have hG2 : grownCap w (k + n) k 5 ≤ maxLen := grownCap_le_maxLen w _ _ _ (by unfold maxLen; omega)
    generalize grownCap w (k + n) k 5 = cap at *
    obtain ⟨Z, hZ⟩ : ∃ Z : Array Value, (cs.map (Value.int .u8)).toArray ++ Builtin.zeroCells (Value.int .u8 0).cells n ++ Builtin.zeroCells (Value.int .u8 0).cells (cap - (k + n)) = Z := ⟨_, rfl⟩
    have hZ1 : Z.size = cap := by rw [← hZ]; simp [size_zeroCells, Value.cells, hl]; omega
    have hZ2 : Z.toList.take k = cs.map (Value.int .u8) := by
      rw [← hZ]
      simp only [Array.toList_append, List.append_assoc]
      rw [List.take_append_of_le_length (by simp [hl])]
      exact List.take_of_length_le (by simp [hl])
    rw [hZ] at happ
    have hRoomy : Roomy base w k n cs (.returned (.slice (some ⟨w.heap.size, 0, none⟩) k cap)) (w.drew.alloc (.cells Z 5)) :=
      ⟨w.heap.size, cap, hbw, by simp, hG, rfl, ⟨by simp [hl], .inr ⟨_, cap, Z, rfl, hbw, heap_alloc_new w.drew _, by omega, hG2, by omega, by simpa using hZ2⟩⟩,
        ⟨rfl, rfl, rfl, by simp, fun i hi => Below.heap_alloc w.drew _ i (Nat.lt_of_lt_of_le hi hbw)⟩⟩
    have HR := Lib.hid hRoomy
    have HA := Lib.hid happ
    unfold maxLen at hG2
    clear hRoomy happ hZ hZ1 hZ2 hold hi hz0 hz1 hz2
    have q1 : (0 : Int) < n := by omega
    go_enter Try.func68, Try.ntmps68
    go_wp2_with (at_builtin; refine Lib.wpList_append_run _ rfl _ _ _ _ rfl _ _ rfl rfl _ _ (HA.out _) ?_)
    go_ret
    exact HR.out
end Go.Proofs.Ytadpgodmkodgdaa

namespace Go.Proofs.Ytadpgodmkodgdaa
open Go.RowKit
set_option linter.unusedSimpArgs false
set_option linter.unusedVariables false

set_option maxHeartbeats 1000000 in
theorem grow_nil (n : Nat) (w : World) (h0 : 0 < n) (hn : n ≤ 70368744177664) :
    Calls Try.prog 68 #[.slice none 0 0, .int .i64 n] w fun e w' => ∃ cap, e = .returned (.slice (some ⟨w.heap.size, 0, none⟩) 0 cap) ∧ w'.ownsRow w.heap.size 5 1 (.slice (some ⟨w.heap.size, 0, none⟩) 0 cap) 0 [] ∧ Below w.heap.size w w' := by
  obtain ⟨i0, hi, hzz⟩ := Option.map_eq_some_iff.1 info_u8n
  simp only [Prod.mk.injEq] at hzz
  obtain ⟨hz0, hz1, hz2⟩ := hzz
  have happ : ∀ ty, (Builtin.append_ #[49, 3] ty #[.slice none 0 0, .int .i64 n]).run Try.prog w = _ := fun ty => Lib.run_append_nil_zeros w 49 3 ty 5 i0 (.int .u8 0) .i64 .i64 Try.underlying49 Try.underlying3 hi hz0 n h0 (by rw [hz1]; omega) (by omega) (by rw [hz2]; omega)
  have hG : n ≤ grownCap w n 0 5 := grownCap_ge w _ _ _
  have hG2 : grownCap w n 0 5 ≤ maxLen := grownCap_le_maxLen w _ _ _ (by unfold maxLen; omega)
  generalize grownCap w n 0 5 = cap at *
  obtain ⟨Zc, hZc⟩ : ∃ Zc : Array Value, Builtin.zeroCells (Value.int .u8 0).cells n ++ Builtin.zeroCells (Value.int .u8 0).cells (cap - n) = Zc := ⟨_, rfl⟩
  have hZs : Zc.size = cap := by rw [← hZc]; simp [size_zeroCells, Value.cells]; omega
  rw [hZc] at happ
  have hO : (w.drew.alloc (.cells Zc 5)).ownsRow w.heap.size 5 1 (.slice (some ⟨w.heap.size, 0, none⟩) 0 cap) 0 [] := ⟨by simp, .inr ⟨w.heap.size, cap, Zc, rfl, Nat.le_refl _, heap_alloc_new w.drew _, Nat.zero_le _, hG2, by omega, by simp⟩⟩
  have HO := Lib.hid hO
  have HA := Lib.hid happ
  have hs1 : ∀ W : World, (Instr.slice 49 (.slice none 0 0) none (some (.int .i64 0)) none).run Try.prog W = .ok (.slice none 0 0) W := fun W => slice_to W none 0 0 0 (Nat.le_refl _)
  have hs2 : ∀ W : World, (Instr.slice 49 (.slice (some ⟨w.heap.size, 0, none⟩) n cap) none (some (.int .i64 0)) none).run Try.prog W = .ok (.slice (some ⟨w.heap.size, 0, none⟩) 0 cap) W := fun W => slice_to W _ n cap 0 (Nat.zero_le _)
  have q0 : (0 : Int) < (n : Int) := by omega
  have HB : Hid (Below w.heap.size w (w.drew.alloc (.cells Zc 5))) := Lib.hid ((drew_below w).alloc (Nat.le_refl _) _)
  clear hO happ hZc hZs hi hz0 hz1 hz2 hG hG2
  go_enter Try.func68, Try.ntmps68
  go_wp2_with (at_builtin; refine Lib.wpList_append_run _ rfl _ _ _ _ rfl _ _ rfl rfl _ _ (HA.out _) ?_)
  go_ret
  exact ⟨cap, rfl, HO.out, HB.out⟩

/-- A part that is put behind others. -/
structure Part where
  A : Option Addr
  n : Nat
  c : Nat
  bs : List Int
/-- Parts in a row of their own. -/
def PartsAt (w : World) (S : Nat) (ps : List Part) : Prop := ∀ (j : Nat) (p : Part), ps[j]? = some p → w.cell? ⟨S, j, none⟩ = some (.slice p.A p.n p.c) ∧ Rd w .u8 p.A p.n p.bs ∧ p.n ≤ p.c ∧ (p.A = none → p.c = 0)
theorem PartsAt.below {w w' : World} {S : Nat} {ps : List Part} (h : PartsAt w S ps) (hS : S < w.heap.size) (hB : Below w.heap.size w w') : PartsAt w' S ps := fun j p hj => by
  obtain ⟨h1, h2, h3⟩ := h j p hj
  exact ⟨(hB.cell (p := ⟨S, j, none⟩) hS).trans h1, h2.below hB, h3⟩
def total (ps : List Part) : Nat := (ps.map Part.n).sum
def cat (ps : List Part) : List Int := (ps.map Part.bs).flatten
theorem total_take (ps : List Part) (k : Nat) (p : Part) (h : ps[k]? = some p) : total (ps.take (k + 1)) = total (ps.take k) + p.n := by
  have hk : k < ps.length := (List.getElem?_eq_some_iff.1 h).1
  rw [List.take_succ_eq_append_getElem hk, (List.getElem?_eq_some_iff.1 h).2]; simp [total]
theorem cat_take (ps : List Part) (k : Nat) (p : Part) (h : ps[k]? = some p) : cat (ps.take (k + 1)) = cat (ps.take k) ++ p.bs := by
  have hk : k < ps.length := (List.getElem?_eq_some_iff.1 h).1
  rw [List.take_succ_eq_append_getElem hk, (List.getElem?_eq_some_iff.1 h).2]; simp [cat]
theorem total_le (ps : List Part) (k : Nat) : total (ps.take k) ≤ total ps := by
  have e := congrArg total (List.take_append_drop k ps)
  simp only [total, List.map_append, List.sum_append] at e ⊢
  omega

set_option maxRecDepth 100000 in
set_option maxHeartbeats 2000000 in
theorem concat_any (S len : Nat) (ps : List Part) (w : World) (hp : PartsAt w S ps) (hS : S < w.heap.size) (hl : ps.length = len) (h0 : 0 < total ps) (hN : total ps ≤ 1000000) (hlen : len ≤ 1000000) :
    Calls Try.prog 52 #[.slice (some ⟨S, 0, none⟩) len len] w fun e w' => ∃ g cap, e = .returned (.slice (some ⟨g, 0, none⟩) (total ps) cap) ∧ total ps ≤ cap ∧ w'.ownsRow w.heap.size 5 1 (.slice (some ⟨g, 0, none⟩) (total ps) cap) (total ps) ((cat ps).map (Value.int .u8)) ∧ w.heap.size ≤ g ∧ Below w.heap.size w w' := by
  have HP := Lib.hid hp
  clear hp
  go_enter Try.func52, Try.ntmps52
  go_wp2_with fail
  go_loopw [3, 11] (fun s i wr => ∃ k : Nat, k ≤ len ∧ i = .int .i64 k ∧ s = .int .i64 (total (ps.take k)) ∧ w = wr) (fun _ i _ => len - (intOf i).toNat)
  case atStart => exact ⟨0, Nat.zero_le _, rfl, by simp [total], rfl⟩
  case round =>
    obtain ⟨k, hk, rfl, rfl, rfl⟩ := hrel
    by_cases hlt : k < len
    · have hkp : ps[k]? = some ps[k] := List.getElem?_eq_getElem (by omega)
      have htt := total_take ps k _ hkp
      have hle := total_le ps (k + 1)
      obtain ⟨h1, h2, h3, h4⟩ := HP.out k _ hkp
      generalize ps[k] = p at *
      obtain ⟨A, n, c, bs⟩ := p
      simp only at *
      have i0 : (0 : Int) ≤ (k : Int) := by omega
      have i1 : (k : Int) < (len : Int) := by omega
      have HTT := Lib.hid htt
      generalize total (ps.take k) = T at *
      have hw : IntKind.i64.wrap ((T : Int) + (n : Int)) = (T : Int) + (n : Int) := IntWalk.i64_in _ (by omega)
      have hnn : ¬ ((T : Int) + (n : Int) < 0) := by omega
      have hnn2 : (0 : Int) ≤ (T : Int) + (n : Int) := by omega
      clear htt hle h2 h3 h4 hkp
      go_wp2_with fail
      refine ⟨⟨k + 1, by omega, by go_num, by rw [HTT.out]; simp⟩, by simp [intOf]; omega⟩
    · obtain rfl : k = len := by omega
      have hps : ps.take k = ps := List.take_of_length_le (by omega)
      rw [hps]
      obtain ⟨N, hNN⟩ : ∃ N, total ps = N := ⟨_, rfl⟩
      have HNN := Lib.hid hNN
      rw [hNN] at h0 hN ⊢
      have hgn := grow_nil N w h0 (by omega)
      go_wp2_with fail
      refine hgn.mono ?_; rintro e w1 ⟨cap1, rfl, ho1, hB1⟩
      have hp1 := HP.out.below hS hB1
      have hS1 : S < w1.heap.size := Nat.lt_of_lt_of_le hS hB1.size
      have HP1 := Lib.hid hp1
      have HST : Hid (w1.ownsRow w.heap.size 5 1 (.slice (some ⟨w.heap.size, 0, none⟩) 0 cap1) (total (ps.take 0)) ((cat (ps.take 0)).map (Value.int .u8)) ∧ Below w.heap.size w w1) := Lib.hid ⟨by simpa [total, cat] using ho1, hB1⟩
      clear hgn ho1 hB1 hp1
      go_wp2_with fail
      go_loopw [6, 27] (fun v i wr => ∃ j : Nat, j ≤ k ∧ i = .int .i64 j ∧ wr.ownsRow w.heap.size 5 1 v (total (ps.take j)) ((cat (ps.take j)).map (Value.int .u8)) ∧ Below w.heap.size w wr) (fun _ i _ => k - (intOf i).toNat)
      case atStart => exact ⟨0, Nat.zero_le _, rfl, HST.out.1, HST.out.2⟩
      case round =>
        obtain ⟨j, hj, rfl, ho, hB⟩ := hrel
        obtain ⟨AA, cc, rfl, -, -, -⟩ := own_slice ho
        by_cases hlt2 : j < k
        · have hkp : ps[j]? = some ps[j] := List.getElem?_eq_getElem (by omega)
          have htt := total_take ps j _ hkp
          have hct := cat_take ps j _ hkp
          have hle := total_le ps (j + 1)
          obtain ⟨h1, h2, h3, h4⟩ := (HP.out.below hS hB) j _ hkp
          generalize ps[j] = p at *
          obtain ⟨A, n, c, bs⟩ := p
          simp only at *
          have i0 : (0 : Int) ≤ (j : Int) := by omega
          have i1 : (j : Int) < (k : Int) := by omega
          have HTT := Lib.hid htt
          have HCT := Lib.hid hct
          have HO := Lib.hid ho
          have HBB := Lib.hid hB
          have HR := Lib.hid h2
          have H4 := Lib.hid h4
          have hTb : total (ps.take j) + n ≤ 1000000 := by omega
          generalize total (ps.take j) = T at *
          clear htt hct hle h2 h3 h4 hkp ho hB
          go_wp2_with (at_builtin; refine append_bytes w.heap.size rfl _ _ rfl (.slice AA T cc) T (cat (ps.take j)) rfl A n c bs rfl HR.out H4.out HO.out HBB.out.size (by omega) ?_; intro v2 w2 ho2 hg2 hat2)
          have HB2 := Lib.hid (grown_below (v := .slice AA T cc) HBB.out hg2 HO.out (Nat.le_refl _))
          clear hg2 hat2
          go_roundw
          case rel => exact ⟨j + 1, by omega, by go_num, by rw [HTT.out, HCT.out]; exact ho2.out, HB2.out⟩
          case measure => simp [intOf]; omega
        · obtain rfl : j = k := by omega
          rw [hps, HNN.out] at ho ⊢
          obtain ⟨g, c2, e, hc2, hg2, hlt3⟩ := own_some ho h0
          injection e with e1 _ e2
          subst e1 e2
          have HO := Lib.hid ho
          have HBB := Lib.hid hB
          clear ho hB
          go_wp2_with fail
          go_ret
          exact ⟨g, cc, rfl, hc2, HO.out, hg2, HBB.out⟩
end Go.Proofs.Ytadpgodmkodgdaa
