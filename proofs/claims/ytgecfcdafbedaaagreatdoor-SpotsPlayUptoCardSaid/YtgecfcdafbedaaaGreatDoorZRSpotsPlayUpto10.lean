/- The document's set of spots: Best, List, Came, Spend. -/
import Derived.Test.YtgecfcdafbedaaaGreatDoorZRSpotsPlayUpto8
import Derived.Test.YtgecfcdafbedaaaGreatDoorZRSpotsPlayUpto9
namespace Go.Proofs.YtgecfcdafbedaaaGreatDoor
open Go.RowKit
set_option linter.unusedSimpArgs false
set_option linter.unusedVariables false

theorem own_rd32 {w : World} {base n c : Nat} {A : Option Addr} {xs : List Int} (h : w.ownsRow base 23 1 (.slice A n c) n (xs.map (Value.int .u32))) (hb : ∀ x ∈ xs, 0 ≤ x ∧ x ≤ 4294967295) (hl : n ≤ 140737488351232) : Rd w .u32 A n xs := by
  have hn : xs.length = n := by have := h.1; simpa using this
  refine ⟨hn, hl, fun x hx => wf_of_u32S (hb x hx), fun h0 => ?_⟩
  obtain ⟨_, A', c', he, _, _, hrow⟩ := own_ints h
  injection he with he
  subst he
  obtain ⟨g, rfl, hgb, hgl, hcells⟩ := hrow h0
  exact ⟨g, 0, rfl, hgl, fun j hj => by rw [Nat.zero_add]; exact hcells j hj⟩
def rbestOf (l : List Rs) : Int × Bool := match l.find? (·.sure) with
  | some s => (s.at_, true)
  | none => ((l[0]?.map (·.at_)).getD 0, false)
section
variable {w : World} {p g c : Nat} {l : List Rs} {cs : List Value} {cr : Int}
set_option maxRecDepth 100000 in
set_option maxHeartbeats 1000000 in
theorem rbest_any (h : RSetAt w p g c l cs cr) : Calls Tryz.prog 22 #[.pointer (some ⟨p, 0, none⟩)] w fun e w' => e = .returned (.tuple #[.int .u32 (rbestOf l).1, .bool (rbestOf l).2]) ∧ w = w' := by
  have HT := Lib.hid h
  have c0 := h.c0
  have hcap := h.cap
  obtain ⟨n, hn⟩ : ∃ n, l.length = n := ⟨_, rfl⟩
  have hn4 : 1 ≤ n ∧ n ≤ 4 := by have := h.len; omega
  have HN := Lib.hid hn
  rw [hn] at c0 hcap
  obtain ⟨s0, hs0⟩ : ∃ s, l[0]? = some s := ⟨_, List.getElem?_eq_getElem (by omega)⟩
  obtain ⟨z0, -, -, -⟩ := h.cell1 hs0
  rw [Nat.zero_mul] at z0
  obtain ⟨x0, hx0⟩ : ∃ x, s0.at_ = x := ⟨_, rfl⟩
  rw [hx0] at z0
  have HS0 : Hid (l[0]?.map (·.at_) = some x0) := Lib.hid (by rw [hs0, ← hx0]; rfl)
  clear h hn hs0 hx0
  go_enter Tryz.func22, Tryz.ntmps22
  go_wp2_with fail
  go_loopw [4] (fun i wr => ∃ k : Nat, k ≤ n ∧ i = .int .i64 k ∧ (∀ j s', j < k → l[j]? = some s' → s'.sure = false) ∧ w = wr) (fun i _ => n - (intOf i).toNat)
  case atStart => exact ⟨0, Nat.zero_le _, rfl, fun j s' hj => by omega, rfl⟩
  case round =>
    obtain ⟨k, hk, rfl, hno, rfl⟩ := hrel
    have HNO := Lib.hid hno
    clear hno
    by_cases hlt : k < n
    · obtain ⟨s, hs⟩ : ∃ s, l[k]? = some s := ⟨_, List.getElem?_eq_getElem (by rw [HN.out]; exact hlt)⟩
      obtain ⟨m0, m1, -, -⟩ := HT.out.cell1 hs
      have i0 : (0 : Int) ≤ (k : Int) := by omega
      have i1 : (k : Int) < (n : Int) := by omega
      have HS := Lib.hid hs
      obtain ⟨x, hx⟩ : ∃ x, s.at_ = x := ⟨_, rfl⟩
      rw [hx] at m0
      have HX := Lib.hid hx
      cases hsu : s.sure with
      | true =>
        have HA : Hid (rbestOf l = (x, true)) := Lib.hid (by unfold rbestOf; rw [findG_first (α := Rs) (q := fun s => s.sure) hs hsu HNO.out]; simp only [hx])
        rw [hsu] at m1
        clear hs hx hsu
        go_wp2_with fail
        go_ret2
        exact ⟨by rw [HA.out]; rfl, rfl⟩
      | false =>
        rw [hsu] at m1
        have HSU := Lib.hid hsu
        clear hs hx hsu
        go_wp2_with fail
        go_roundw
        case rel =>
          refine ⟨k + 1, by omega, by go_num, fun j s' hj hs' => ?_, trivial⟩
          rcases Nat.lt_or_ge j k with h1 | h1
          · exact HNO.out j s' h1 hs'
          · obtain rfl : j = k := by omega
            rw [HS.out] at hs'
            injection hs' with hs'
            subst hs'
            exact HSU.out
        case measure => simp [intOf]; omega
    · obtain rfl : k = n := by omega
      have HA : Hid (rbestOf l = (x0, false)) := Lib.hid (by
        unfold rbestOf
        rw [findG_no (α := Rs) (q := fun s => s.sure) (fun s hs => by
          obtain ⟨j, hj, rfl⟩ := List.getElem_of_mem hs
          exact HNO.out j _ (by rw [← HN.out]; exact hj) (List.getElem?_eq_getElem hj)), HS0.out]; rfl)
      go_wp2_with fail
      go_ret2
      exact ⟨by rw [HA.out]; rfl, rfl⟩
set_option maxRecDepth 100000 in
set_option maxHeartbeats 1000000 in
theorem rlist_any (h : RSetAt w p g c l cs cr) : Calls Tryz.prog 23 #[.pointer (some ⟨p, 0, none⟩)] w fun e w' => ∃ A n c', e = .returned (.slice A n c') ∧ n = l.length ∧ Rd w' .u32 A n (l.map (·.at_)) ∧ Below w.heap.size w w' := by
  have HT := Lib.hid h
  have c0 := h.c0
  have hcap := h.cap
  obtain ⟨n, hn⟩ : ∃ n, l.length = n := ⟨_, rfl⟩
  have hn4 : 1 ≤ n ∧ n ≤ 4 := by have := h.len; omega
  have HN := Lib.hid hn
  rw [hn] at c0 hcap
  clear h hn
  go_enter Tryz.func23, Tryz.ntmps23
  go_wp2_with fail
  go_loopw [3, 4] (fun v i wr => ∃ k : Nat, k ≤ n ∧ i = .int .i64 k ∧ wr.ownsRow w.heap.size 23 1 v k (((l.take k).map (·.at_)).map (Value.int .u32)) ∧ Below w.heap.size w wr) (fun _ i _ => n - (intOf i).toNat)
  case atStart => exact ⟨0, Nat.zero_le _, rfl, own_nil _ _ _ _, Below.refl _ _⟩
  case round =>
    obtain ⟨k, hk, rfl, ho, hB⟩ := hrel
    obtain ⟨A, c', rfl, hkc, hcm, -⟩ := own_slice ho
    have HT1 := Lib.hid (HT.out.below hB)
    have c1 := HT1.out.c0
    rw [HN.out] at c1
    by_cases hlt : k < n
    · obtain ⟨e, he⟩ : ∃ e, l[k]? = some e := ⟨_, List.getElem?_eq_getElem (by rw [HN.out]; exact hlt)⟩
      obtain ⟨m0, -, -, -⟩ := HT1.out.cell1 he
      have HB := Lib.hid hB
      have HO := Lib.hid ho
      have htk : (l.take (k + 1)).map (·.at_) = (l.take k).map (·.at_) ++ [e.at_] := by
        have hl := (List.getElem?_eq_some_iff.1 he).1
        rw [List.take_succ_eq_append_getElem hl, List.map_append, List.map_cons, List.map_nil, show l[k] = e from (List.getElem?_eq_some_iff.1 he).2]
      obtain ⟨ea, hea⟩ : ∃ x, e.at_ = x := ⟨_, rfl⟩
      rw [hea] at htk m0
      have HTK := Lib.hid htk
      obtain ⟨ys, hys⟩ : ∃ ys, (l.take k).map (·.at_) = ys := ⟨_, rfl⟩
      rw [hys] at HO HTK
      have i0 : (0 : Int) ≤ (k : Int) := by omega
      have i1 : (k : Int) < (n : Int) := by omega
      clear he ho hB hea hys htk
      go_wp2_with (at_builtin; refine append_int (W := wr) w.heap.size rfl _ _ 50 23 .u32 4 rfl Tryz.underlying50 info_spotS (by omega) (.slice A k c') k ys ea rfl rfl HO.out HB.out.size (by omega) ?_; intro v1 w1 ho1 hk1 _; have HO1 := Lib.hid ho1; have HK1 := Lib.hid hk1; clear ho1 hk1)
      go_roundw
      case rel => exact ⟨k + 1, by omega, by go_num, by rw [HTK.out]; exact HO1.out, own_nextS HB.out HO.out HK1.out⟩
      case measure => simp [intOf]; omega
    · obtain rfl : k = n := by omega
      rw [List.take_of_length_le (by rw [HN.out]; omega)] at ho
      have HR : Hid (Rd wr .u32 A k (l.map (·.at_))) := Lib.hid (own_rd32 ho (fun x hx => by
        obtain ⟨s, hs, rfl⟩ := List.mem_map.1 hx
        exact HT.out.ats s hs) (by omega))
      have HB := Lib.hid hB
      clear ho hB
      go_wp2_with fail
      go_ret
      exact ⟨A, k, c', rfl, HN.out.symm, HR.out, HB.out⟩
theorem RSetAt.putC (h : RSetAt w p g c l cs cr) (x : Int) (hx : 0 ≤ x ∧ x ≤ 2048) : RSetAt (w.setCell ⟨p, 1, none⟩ (.int .i64 x)) p g c l cs x :=
  ⟨h.set.put 1 (.int .i64 x), h.row.far h.pg.symm _, h.sums, h.len, h.cap, h.ats, hx⟩
theorem RSetAt.free1 (h : RSetAt w p g c l cs cr) (j : Nat) : w.frozen? ⟨p, j, none⟩ = false := h.set.free j
theorem RSetAt.freeG (h : RSetAt w p g c l cs cr) (j : Nat) : w.frozen? ⟨g, j, none⟩ = false := h.row.free j
theorem rcame_any (h : RSetAt w p g c l cs cr) (b : Int) (hb : -9223372036854775808 ≤ b ∧ b ≤ 9223372036854775807) :
    Calls Tryz.prog 13 #[.pointer (some ⟨p, 0, none⟩), .int .i64 b] w fun e w' => e = .returned (.tuple #[]) ∧ RSetAt w' p g c l cs (cameC cr b) ∧ Keeps (fun i => i = p) w w' := by
  have HT := Lib.hid h
  have c1 := h.c1
  have fr := h.free1 1
  obtain ⟨hc0, hc1⟩ := h.cred
  clear h
  by_cases h0 : 0 < b
  · by_cases h1 : b < 2048
    · by_cases h2 : cr + b < 2048
      · have HA : Hid (cameC cr b = cr + b) := Lib.hid (by unfold cameC; rw [if_pos h0]; omega)
        have g1 : ¬ b ≤ 0 := by omega
        have g2 : ¬ 2048 ≤ b := by omega
        have g3 : ¬ 2048 ≤ cr + b := by omega
        go_enter Tryz.func13, Tryz.ntmps13
        go_wp2_with fail
        refine bodyPost_end (results_none rfl _ _ _) rfl ?_
        exact ⟨rfl, by rw [HA.out]; exact HT.out.putC _ (by omega), Keeps.set1 w ⟨p, 1, none⟩ _⟩
      · have HA : Hid (cameC cr b = 2048) := Lib.hid (by unfold cameC; rw [if_pos h0]; omega)
        have g1 : ¬ b ≤ 0 := by omega
        have g2 : ¬ 2048 ≤ b := by omega
        have g3 : 2048 ≤ cr + b := by omega
        clear h2
        go_enter Tryz.func13, Tryz.ntmps13
        go_wp2_with fail
        refine bodyPost_end (results_none rfl _ _ _) rfl ?_
        exact ⟨rfl, by rw [HA.out]; exact HT.out.putC _ (by omega), Keeps.set1 w ⟨p, 1, none⟩ _⟩
    · have HA : Hid (cameC cr b = 2048) := Lib.hid (by unfold cameC; rw [if_pos h0]; omega)
      have g1 : ¬ b ≤ 0 := by omega
      have g2 : 2048 ≤ b := by omega
      have g3 : 2048 ≤ cr + 2048 := by omega
      clear h1
      go_enter Tryz.func13, Tryz.ntmps13
      go_wp2_with fail
      refine bodyPost_end (results_none rfl _ _ _) rfl ?_
      exact ⟨rfl, by rw [HA.out]; exact HT.out.putC _ (by omega), Keeps.set1 w ⟨p, 1, none⟩ _⟩
  · have HA : Hid (cameC cr b = cr) := Lib.hid (by unfold cameC; rw [if_neg h0])
    have g1 : b ≤ 0 := by omega
    clear h0
    by_cases h2 : cr = 2048
    · subst h2
      go_enter Tryz.func13, Tryz.ntmps13
      go_wp2_with fail
      refine bodyPost_end (results_none rfl _ _ _) rfl ?_
      exact ⟨rfl, by rw [HA.out]; exact HT.out.putC _ (by omega), Keeps.set1 w ⟨p, 1, none⟩ _⟩
    · have g3 : ¬ 2048 ≤ cr := by omega
      clear h2
      go_enter Tryz.func13, Tryz.ntmps13
      go_wp2_with fail
      refine bodyPost_end (results_none rfl _ _ _) rfl ?_
      exact ⟨rfl, by rw [HA.out]; exact HT.out.putC _ (by omega), Keeps.set1 w ⟨p, 1, none⟩ _⟩
/-- What Spend answers, and the credit behind it. -/
def rspendE (l : List Rs) (cr b : Int) : Int := if b < 0 then 1 else if (rbestOf l).2 = true then 0 else if cr < b then 6 else 0
def rspendC (l : List Rs) (cr b : Int) : Int := if b < 0 then cr else if (rbestOf l).2 = true then cr else if cr < b then cr else cr - b
def RSpendS (w : World) (p g c : Nat) (l : List Rs) (cs : List Value) (cr b : Int) (e : Ending) (w' : World) : Prop :=
  e = .returned (.int .i64 (rspendE l cr b)) ∧ RSetAt w' p g c l cs (rspendC l cr b) ∧ Keeps (fun i => i = p) w w'
set_option maxHeartbeats 1000000 in
theorem rspend_any (h : RSetAt w p g c l cs cr) (b : Int) (hb : -9223372036854775808 ≤ b ∧ b ≤ 9223372036854775807) :
    Calls Tryz.prog 15 #[.pointer (some ⟨p, 0, none⟩), .int .i64 b] w (RSpendS w p g c l cs cr b) := by
  have HT := Lib.hid h
  obtain ⟨hc0, hc1⟩ := h.cred
  have c1 := h.c1
  have fr := h.free1 1
  have HBE := Lib.hid (rbest_any h)
  clear h
  by_cases h0 : b < 0
  · have HA : Hid (rspendE l cr b = 1 ∧ rspendC l cr b = cr) := Lib.hid ⟨by unfold rspendE; rw [if_pos h0], by unfold rspendC; rw [if_pos h0]⟩
    go_enter Tryz.func15, Tryz.ntmps15
    go_wp2_with fail
    go_ret
    exact ⟨ret_int HA.out.1.symm, by rw [HA.out.2]; exact HT.out, Keeps.refl _ _⟩
  · obtain ⟨a, q, hq⟩ : ∃ a q, rbestOf l = (a, q) := ⟨_, _, rfl⟩
    rw [hq] at HBE
    have hn0 : ¬ b < 0 := h0
    cases q with
    | true =>
      have HA : Hid (rspendE l cr b = 0 ∧ rspendC l cr b = cr) := Lib.hid ⟨by unfold rspendE; rw [if_neg h0, hq, if_pos rfl], by unfold rspendC; rw [if_neg h0, hq, if_pos rfl]⟩
      clear hq h0
      go_enter Tryz.func15, Tryz.ntmps15
      go_wp2_with fail
      refine HBE.out.mono ?_; rintro e w1 ⟨rfl, rfl⟩
      go_wp2_with fail
      go_ret
      exact ⟨ret_int HA.out.1.symm, by rw [HA.out.2]; exact HT.out, Keeps.refl _ _⟩
    | false =>
      by_cases h1 : cr < b
      · have HA : Hid (rspendE l cr b = 6 ∧ rspendC l cr b = cr) := Lib.hid ⟨by unfold rspendE; rw [if_neg h0, hq, if_neg Bool.false_ne_true, if_pos h1], by unfold rspendC; rw [if_neg h0, hq, if_neg Bool.false_ne_true, if_pos h1]⟩
        clear hq h0
        go_enter Tryz.func15, Tryz.ntmps15
        go_wp2_with fail
        refine HBE.out.mono ?_; rintro e w1 ⟨rfl, rfl⟩
        go_wp2_with fail
        go_ret
        exact ⟨ret_int HA.out.1.symm, by rw [HA.out.2]; exact HT.out, Keeps.refl _ _⟩
      · have HA : Hid (rspendE l cr b = 0 ∧ rspendC l cr b = cr - b) := Lib.hid ⟨by unfold rspendE; rw [if_neg h0, hq, if_neg Bool.false_ne_true, if_neg h1], by unfold rspendC; rw [if_neg h0, hq, if_neg Bool.false_ne_true, if_neg h1]⟩
        have g1 : b ≤ cr := by omega
        have g2 : ¬ cr < b := h1
        clear hq h0 h1
        go_enter Tryz.func15, Tryz.ntmps15
        go_wp2_with fail
        refine HBE.out.mono ?_; rintro e w1 ⟨rfl, rfl⟩
        go_wp2_with fail
        go_ret
        exact ⟨ret_int HA.out.1.symm, by rw [HA.out.2]; exact HT.out.putC _ (by omega), Keeps.set1 w ⟨p, 1, none⟩ _⟩
end
end Go.Proofs.YtgecfcdafbedaaaGreatDoor
