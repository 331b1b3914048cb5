/- A set of spots: Ask, Back, Came, Spend. -/
import Derived.Test.YtgecfcdafbedaaaGreatDoorZRSpotsPlayUpto4
namespace Go.Proofs.YtgecfcdafbedaaaGreatDoor
open Go.RowKit
set_option linter.unusedSimpArgs false
set_option linter.unusedVariables false

/-- The first of whom it is true, changed. -/
def updF (q : Spt → Bool) (f : Spt → Spt) : List Spt → List Spt
  | [] => []
  | s :: l => if q s = true then f s :: l else s :: updF q f l
theorem updF_set {q : Spt → Bool} {f : Spt → Spt} : ∀ {l : List Spt} {i : Nat} {s : Spt}, l[i]? = some s → q s = true → (∀ j s', j < i → l[j]? = some s' → q s' = false) → l.set i (f s) = updF q f l
  | [], i, s, h, _, _ => by simp at h
  | x :: l, 0, s, h, hq, _ => by
    simp at h; subst h
    simp [updF, hq]
  | x :: l, i + 1, s, h, hq, hp => by
    have h0 := hp 0 x (by omega) rfl
    rw [updF, if_neg (by rw [h0]; exact Bool.false_ne_true), List.set_cons_succ, updF_set (i := i) (by simpa using h) hq (fun j s' hj hs => hp (j + 1) s' (by omega) (by simpa using hs))]
theorem updF_len (q : Spt → Bool) (f : Spt → Spt) : ∀ l, (updF q f l).length = l.length
  | [] => rfl
  | s :: l => by
    rw [updF]; split
    · rfl
    · simp [updF_len q f l]
def askE (l : List Spt) (a : Int) : Int := match l.find? (isAt a) with
  | some s => if s.st = 2 then 9 else 0
  | none => 7
def askL (l : List Spt) (a : Int) (X : Nat) (bs : List Int) : List Spt := if askE l a = 0 then updF (isAt a) (fun s => ⟨s.at_, s.st, some (X, bs)⟩) l else l
def backE (l : List Spt) (bs : List Int) : Int × Int := match l.find? (isSum bs) with
  | some s => (s.at_, 0)
  | none => (0, 7)
def backL (l : List Spt) (bs : List Int) : List Spt := updF (isSum bs) (fun s => ⟨s.at_, 2, s.sum⟩) l
theorem updF_no {q : Spt → Bool} {f : Spt → Spt} : ∀ {l : List Spt}, (∀ s ∈ l, q s = false) → updF q f l = l
  | [], _ => rfl
  | x :: l, h => by rw [updF, if_neg (by rw [h x (by simp)]; exact Bool.false_ne_true), updF_no (fun s hs => h s (by simp [hs]))]
/-- One cell of a spot is written. -/
theorem SetAt.put {w : World} {p g : Nat} {l : List Spt} {cr : Int} (h : SetAt w p g l cr) {i : Nat} {s s' : Spt} (hi : l[i]? = some s) (k : Nat) (hk : k < 3) (v : Value) (hv : (spC s).set k v = spC s') (ha : 0 ≤ s'.at_ ∧ s'.at_ ≤ 4294967295) (hst : s'.st = 1 ∨ s'.st = 2)
    (hsum : ∀ q, s'.sum = some q → Blk w q.1 52 (q.2.map (Value.int .u8)) ∧ q.2.length = 32) : SetAt (w.setCell ⟨g, 3 * i + k, none⟩ v) p g (l.set i s') cr := by
  have hmem : ∀ x ∈ l.set i s', x = s' ∨ x ∈ l := fun x hx => (List.mem_or_eq_of_mem_set hx).symm
  refine ⟨?_, ?_, ?_, ?_, ?_, ?_, h.cred⟩
  · rw [List.length_set]; exact h.set.far h.pg v
  · rw [← rowS_set l i s s' k v hi hk hv]; exact h.row.put _ v
  · intro x hx q hq
    rcases hmem x hx with rfl | hx
    · exact ⟨(hsum q hq).1.far (blk_ne (hsum q hq).1 h.row (by decide)) v, (hsum q hq).2⟩
    · exact ⟨(h.sum x hx q hq).1.far (blk_ne (h.sum x hx q hq).1 h.row (by decide)) v, (h.sum x hx q hq).2⟩
  · rw [List.length_set]; exact h.len
  · intro x hx
    rcases hmem x hx with rfl | hx
    · exact ha
    · exact h.ats x hx
  · intro x hx
    rcases hmem x hx with rfl | hx
    · exact hst
    · exact h.sts x hx
/-- The credit is written. -/
theorem SetAt.putC {w : World} {p g : Nat} {l : List Spt} {cr : Int} (h : SetAt w p g l cr) (c : Int) (hc : 0 ≤ c ∧ c ≤ 2048) : SetAt (w.setCell ⟨p, 1, none⟩ (.int .i64 c)) p g l c :=
  ⟨h.set.put 1 (.int .i64 c), h.row.far h.pg.symm _, fun s hs q hq => ⟨(h.sum s hs q hq).1.far (blk_ne (h.sum s hs q hq).1 h.set (by decide)) _, (h.sum s hs q hq).2⟩, h.len, h.ats, h.sts, hc⟩
theorem SetAt.free1 {w : World} {p g : Nat} {l : List Spt} {cr : Int} (h : SetAt w p g l cr) (j : Nat) : w.frozen? ⟨p, j, none⟩ = false := h.set.free j
theorem SetAt.freeG {w : World} {p g : Nat} {l : List Spt} {cr : Int} (h : SetAt w p g l cr) (j : Nat) : w.frozen? ⟨g, j, none⟩ = false := h.row.free j
def AskS (w : World) (p g : Nat) (l : List Spt) (cr a : Int) (bs : List Int) (e : Ending) (w' : World) : Prop :=
  ∃ X, w.heap.size ≤ X ∧ e = .returned (.int .i64 (askE l a)) ∧ SetAt w' p g (askL l a X bs) cr ∧ Keeps (fun i => i = g) w w'
set_option maxRecDepth 100000 in
set_option maxHeartbeats 1000000 in
theorem ask_any {p g : Nat} {l : List Spt} {cr : Int} {w : World} (h : SetAt w p g l cr) (a : Int) (bs : List Int) (hbs : bs.length = 32) :
    Calls Tryz.prog 8 #[.pointer (some ⟨p, 0, none⟩), .int .u32 a, .agg (bs.map (Value.int .u8)).toArray] w (AskS w p g l cr a bs) := by
  obtain ⟨cs, hcs⟩ : ∃ cs, (bs.map (Value.int .u8)).toArray = cs := ⟨_, rfl⟩
  have hk0 := Blk.new w 52 (bs.map (Value.int .u8))
  rw [hcs] at hk0 ⊢
  have hB0 := new_belowS w (.cells cs 52)
  have hT0 := h.below hB0
  obtain ⟨w0, hw0⟩ : ∃ w0, w.alloc (.cells cs 52) = w0 := ⟨_, rfl⟩
  rw [hw0] at hk0 hB0 hT0
  have HW0 := Lib.hid hw0
  have HK0 := Lib.hid hk0
  have HB0 := Lib.hid hB0
  have HT := Lib.hid hT0
  have HBS := Lib.hid hbs
  have HF := Lib.hid (findAt_any hT0 a)
  have HB1 := Lib.hid (hB0.trans ((new_belowS w0 (.cells #[.int .u32 a] 23)).mono hB0.size))
  have HB01 := Lib.hid (new_belowS w0 (.cells #[.int .u32 a] 23))
  obtain ⟨S, hS⟩ : ∃ S, w.heap.size = S := ⟨_, rfl⟩
  have HS := Lib.hid hS
  rw [hS] at HK0
  clear h hbs hcs hk0 hB0 hT0 hw0 hS
  go_enter Tryz.func8, Tryz.ntmps8
  go_wp2_with fail
  rw [HW0.out, HS.out]
  refine (there_set HT.out).mono ?_; rintro e w' ⟨rfl, rfl⟩
  go_wp2_with fail
  refine (at_any a w0).mono ?_; rintro e w' ⟨rfl, rfl⟩
  go_wp2_with fail
  refine HF.out.mono ?_; rintro e w1 ⟨hr, hB1⟩
  have HBB := Lib.hid (HB1.out.trans (hB1.mono HB1.out.size))
  have HB0' := Lib.hid (HB01.out.trans (hB1.mono HB01.out.size))
  have HT1 := Lib.hid (HT.out.below HB0'.out)
  have HK1 := Lib.hid (HK0.out.below HB0'.out HK0.out.lt)
  clear hB1 HF
  rcases hr with ⟨i, s, hi, hq, hp, rfl⟩ | ⟨hno, Y, hY, rfl, hk⟩
  · obtain ⟨m0, m1, m2⟩ := HT1.out.cell1 hi
    have fr := HT1.out.freeG (3 * i + 2)
    have HFF := Lib.hid (find_first hi hq hp)
    have HI := Lib.hid (And.intro hi (And.intro hq hp))
    obtain ⟨st, hst⟩ : ∃ x, s.st = x := ⟨_, rfl⟩
    obtain ⟨sv, hsv⟩ : ∃ x, sumV s.sum = .pointer x := ⟨_, rfl⟩
    rw [hst] at m1
    rw [hsv] at m2
    have HST := Lib.hid hst
    clear hi hq hp hst hsv m0
    by_cases h2 : st = 2
    · subst h2
      have HA : Hid (askE l a = 9) := Lib.hid (by unfold askE; rw [HFF.out]; simp [HST.out])
      go_wp2_with fail
      go_ret
      exact ⟨S, by have := HS.out; omega, ret_int HA.out.symm, by unfold askL; rw [if_neg (by rw [HA.out]; omega)]; exact HT1.out, Keeps.of_below HBB.out⟩
    · have hqb : (st == 2) = false := beq_eq_false_iff_ne.2 h2
      have HA : Hid (askE l a = 0) := Lib.hid (by unfold askE; rw [HFF.out]; simp [HST.out, h2])
      clear h2
      go_wp2_with fail
      go_ret
      refine ⟨S, by have := HS.out; omega, ret_int HA.out.symm, ?_, (Keeps.of_below (M := fun i => i = g) HBB.out).then_ (M' := fun i => i = g) (Keeps.set1 w1 ⟨g, 3 * i + 2, none⟩ _) (fun j hj => .inl hj)⟩
      unfold askL
      rw [if_pos HA.out, ← updF_set HI.out.1 HI.out.2.1 HI.out.2.2]
      exact HT1.out.put HI.out.1 2 (by omega) _ rfl (HT1.out.ats s (List.mem_of_getElem? HI.out.1)) (HT1.out.sts s (List.mem_of_getElem? HI.out.1)) (fun q hq => by
        injection hq with hq
        subst hq
        exact ⟨HK1.out, HBS.out⟩)
  · have HA : Hid (askE l a = 7) := Lib.hid (by unfold askE; rw [find_no hno])
    clear hno hY hk
    go_wp2_with fail
    go_ret
    exact ⟨S, by have := HS.out; omega, ret_int HA.out.symm, by unfold askL; rw [if_neg (by rw [HA.out]; omega)]; exact HT1.out, Keeps.of_below HBB.out⟩
def BackS (w : World) (p g : Nat) (l : List Spt) (cr : Int) (bs : List Int) (e : Ending) (w' : World) : Prop :=
  e = .returned (.tuple #[.int .u32 (backE l bs).1, .int .i64 (backE l bs).2]) ∧ SetAt w' p g (backL l bs) cr ∧ Keeps (fun i => i = g) w w'
set_option maxRecDepth 100000 in
set_option maxHeartbeats 1000000 in
theorem back_any {p g : Nat} {l : List Spt} {cr : Int} {w : World} (h : SetAt w p g l cr) (bs : List Int) (hbs : bs.length = 32) :
    Calls Tryz.prog 10 #[.pointer (some ⟨p, 0, none⟩), .agg (bs.map (Value.int .u8)).toArray] w (BackS w p g l cr bs) := by
  obtain ⟨cs, hcs⟩ : ∃ cs, (bs.map (Value.int .u8)).toArray = cs := ⟨_, rfl⟩
  have hk0 := Blk.new w 52 (bs.map (Value.int .u8))
  rw [hcs] at hk0 ⊢
  have hB0 := new_belowS w (.cells cs 52)
  have hT0 := h.below hB0
  obtain ⟨w0, hw0⟩ : ∃ w0, w.alloc (.cells cs 52) = w0 := ⟨_, rfl⟩
  rw [hw0] at hk0 hB0 hT0
  have HW0 := Lib.hid hw0
  have HB0 := Lib.hid hB0
  have HT := Lib.hid hT0
  obtain ⟨S, hS⟩ : ∃ S, w.heap.size = S := ⟨_, rfl⟩
  have HS := Lib.hid hS
  rw [hS] at hk0
  have HF := Lib.hid (find_back p g S l cr (isSum bs) w0 hT0 (fun s hs W hB => backc_any s bs S W (hk0.below hB hk0.lt).range ((hk0.below hB hk0.lt).lt) hbs (fun q hq => by
    have := (hT0.below hB).sum s hs q hq
    exact ⟨this.1.lt, this.1.range, this.2⟩)))
  clear h hbs hcs hk0 hB0 hT0 hw0 hS
  go_enter Tryz.func10, Tryz.ntmps10
  go_wp2_with fail
  rw [HW0.out, HS.out]
  refine (there_set HT.out).mono ?_; rintro e w' ⟨rfl, rfl⟩
  go_wp2_with fail
  refine HF.out.mono ?_; rintro e w1 ⟨hr, hB1⟩
  have HBB := Lib.hid (HB0.out.trans (hB1.mono HB0.out.size))
  have HT1 := Lib.hid (HT.out.below hB1)
  clear hB1 HF
  rcases hr with ⟨i, s, hi, hq, hp, rfl⟩ | ⟨hno, Y, hY, rfl, hk⟩
  · obtain ⟨m0, m1, m2⟩ := HT1.out.cell1 hi
    have fr := HT1.out.freeG (3 * i + 1)
    have HA : Hid (backE l bs = (s.at_, 0)) := Lib.hid (by unfold backE; rw [find_first hi hq hp])
    have HI := Lib.hid (And.intro hi (And.intro hq hp))
    obtain ⟨at_, hat⟩ : ∃ x, s.at_ = x := ⟨_, rfl⟩
    rw [hat] at m0 HA
    clear hi hq hp hat m2
    go_wp2_with fail
    go_ret2
    refine ⟨by rw [HA.out]; rfl, ?_, (Keeps.of_below (M := fun i => i = g) HBB.out).then_ (M' := fun i => i = g) (Keeps.set1 w1 ⟨g, 3 * i + 1, none⟩ _) (fun j hj => .inl hj)⟩
    unfold backL
    rw [← updF_set HI.out.1 HI.out.2.1 HI.out.2.2]
    exact HT1.out.put HI.out.1 1 (by omega) _ rfl (HT1.out.ats s (List.mem_of_getElem? HI.out.1)) (.inr rfl) (fun q hq => HT1.out.sum s (List.mem_of_getElem? HI.out.1) q hq)
  · have HA : Hid (backE l bs = (0, 7)) := Lib.hid (by unfold backE; rw [find_no hno])
    have HL : Hid (backL l bs = l) := Lib.hid (updF_no hno)
    clear hno hY hk
    go_wp2_with fail
    go_ret2
    exact ⟨by rw [HA.out]; rfl, by rw [HL.out]; exact HT1.out, Keeps.of_below HBB.out⟩
/-- The credit, when so many bytes came. -/
def cameC (cr b : Int) : Int := if 0 < b then min 2048 (cr + min b 2048) else cr
theorem cameC_ok {cr : Int} (b : Int) (h : 0 ≤ cr ∧ cr ≤ 2048) : 0 ≤ cameC cr b ∧ cameC cr b ≤ 2048 := by
  unfold cameC; split <;> omega
theorem came_any {p g : Nat} {l : List Spt} {cr : Int} {w : World} (h : SetAt w p g l cr) (b : Int) (hb : -9223372036854775808 ≤ b ∧ b ≤ 9223372036854775807) :
    Calls Tryz.prog 12 #[.pointer (some ⟨p, 0, none⟩), .int .i64 b] w fun e w' => e = .returned (.tuple #[]) ∧ SetAt w' p g l (cameC cr b) ∧ Keeps (fun i => i = p) w w' := by
  have HT := Lib.hid h
  have c1 := h.c1
  have fr := h.free1 1
  obtain ⟨hc0, hc1⟩ := h.cred
  have HCC := Lib.hid (cameC_ok b h.cred)
  clear h
  by_cases h0 : 0 < b
  · have h0' : 1 ≤ b := by omega
    by_cases h1 : b ≤ 2048
    · have e1 : min b 2048 = b := by omega
      clear e1
      by_cases h2 : cr + b < 2048
      · have HA : Hid (cameC cr b = cr + b) := Lib.hid (by unfold cameC; rw [if_pos h0]; omega)
        have f0 : decide (0 < b) = true := decide_eq_true h0
        clear h0
        go_enter Tryz.func12, Tryz.ntmps12
        go_wp2_with fail
        refine (there_set HT.out).mono ?_; rintro e w' ⟨rfl, rfl⟩
        go_wp2_with fail
        refine bodyPost_end (results_none rfl _ _ _) rfl ?_
        exact ⟨rfl, by rw [HA.out]; exact HT.out.putC _ (by omega), Keeps.set1 w ⟨p, 1, none⟩ _⟩
      · have HA : Hid (cameC cr b = 2048) := Lib.hid (by unfold cameC; rw [if_pos h0]; omega)
        have f0 : decide (0 < b) = true := decide_eq_true h0
        have h2' : 2048 ≤ cr + b := by omega
        clear h0
        go_enter Tryz.func12, Tryz.ntmps12
        go_wp2_with fail
        refine (there_set HT.out).mono ?_; rintro e w' ⟨rfl, rfl⟩
        go_wp2_with fail
        refine bodyPost_end (results_none rfl _ _ _) rfl ?_
        exact ⟨rfl, by rw [HA.out]; exact HT.out.putC _ (by omega), Keeps.set1 w ⟨p, 1, none⟩ _⟩
    · have HA : Hid (cameC cr b = 2048) := Lib.hid (by unfold cameC; rw [if_pos h0]; omega)
      have f0 : decide (0 < b) = true := decide_eq_true h0
      have h1' : 2048 < b := by omega
      have h1'' : ¬ b ≤ 2048 := h1
      have h2' : 2048 ≤ cr + 2048 := by omega
      clear h1
      clear h0
      go_enter Tryz.func12, Tryz.ntmps12
      go_wp2_with fail
      refine (there_set HT.out).mono ?_; rintro e w' ⟨rfl, rfl⟩
      go_wp2_with fail
      refine bodyPost_end (results_none rfl _ _ _) rfl ?_
      exact ⟨rfl, by rw [HA.out]; exact HT.out.putC _ (by omega), Keeps.set1 w ⟨p, 1, none⟩ _⟩
  · have HA : Hid (cameC cr b = cr) := Lib.hid (by unfold cameC; rw [if_neg h0])
    have f0 : decide (0 < b) = false := decide_eq_false h0
    have f0' : b ≤ 0 := by omega
    clear h0
    go_enter Tryz.func12, Tryz.ntmps12
    go_wp2_with fail
    refine (there_set HT.out).mono ?_; rintro e w' ⟨rfl, rfl⟩
    go_wp2_with fail
    refine bodyPost_end (results_none rfl _ _ _) rfl ?_
    exact ⟨rfl, by rw [HA.out]; exact HT.out, Keeps.refl _ _⟩
/-- What Spend answers, and the credit behind it. -/
def spendE (l : List Spt) (cr b : Int) : Int := if b < 0 then 1 else if (bestOf l).2 = true then 0 else if cr < b then 6 else 0
def spendC (l : List Spt) (cr b : Int) : Int := if b < 0 then cr else if (bestOf l).2 = true then cr else if cr < b then cr else cr - b
theorem spendC_ok {l : List Spt} {cr : Int} (b : Int) (h : 0 ≤ cr ∧ cr ≤ 2048) : 0 ≤ spendC l cr b ∧ spendC l cr b ≤ 2048 := by
  unfold spendC
  split
  · exact h
  · split
    · exact h
    · split <;> omega
def SpendS (w : World) (p g : Nat) (l : List Spt) (cr b : Int) (e : Ending) (w' : World) : Prop :=
  e = .returned (.int .i64 (spendE l cr b)) ∧ SetAt w' p g l (spendC l cr b) ∧ Keeps (fun i => i = p) w w'
set_option maxHeartbeats 1000000 in
theorem spend_any {p g : Nat} {l : List Spt} {cr : Int} {w : World} (h : SetAt w p g l cr) (b : Int) (hb : -9223372036854775808 ≤ b ∧ b ≤ 9223372036854775807) :
    Calls Tryz.prog 14 #[.pointer (some ⟨p, 0, none⟩), .int .i64 b] w (SpendS w p g l cr b) := by
  have HT := Lib.hid h
  obtain ⟨hc0, hc1⟩ := h.cred
  clear h
  by_cases h0 : b < 0
  · have HA : Hid (spendE l cr b = 1 ∧ spendC l cr b = cr) := Lib.hid ⟨by unfold spendE; rw [if_pos h0], by unfold spendC; rw [if_pos h0]⟩
    go_enter Tryz.func14, Tryz.ntmps14
    go_wp2_with fail
    refine (there_set HT.out).mono ?_; rintro e w' ⟨rfl, rfl⟩
    go_wp2_with fail
    go_ret
    exact ⟨ret_int HA.out.1.symm, by rw [HA.out.2]; exact HT.out, Keeps.refl _ _⟩
  · have h0' : 0 ≤ b := by omega
    have HBE := Lib.hid (best_any HT.out)
    cases hs : (bestOf l).2 with
    | true =>
      have HA : Hid (spendE l cr b = 0 ∧ spendC l cr b = cr) := Lib.hid ⟨by unfold spendE; rw [if_neg h0, if_pos hs], by unfold spendC; rw [if_neg h0, if_pos hs]⟩
      rw [hs] at HBE
      obtain ⟨bt, hbt⟩ : ∃ x, (bestOf l).1 = x := ⟨_, rfl⟩
      rw [hbt] at HBE
      clear h0 hs hbt
      go_enter Tryz.func14, Tryz.ntmps14
      go_wp2_with fail
      refine (there_set HT.out).mono ?_; rintro e w' ⟨rfl, rfl⟩
      go_wp2_with fail
      refine HBE.out.mono ?_; rintro e w1 ⟨rfl, hB1⟩
      have HB1 := Lib.hid hB1
      clear hB1
      go_wp2_with fail
      go_ret
      exact ⟨ret_int HA.out.1.symm, by rw [HA.out.2]; exact HT.out.below HB1.out, Keeps.of_below HB1.out⟩
    | false =>
      rw [hs] at HBE
      have hs' : ¬ (bestOf l).2 = true := by rw [hs]; exact Bool.false_ne_true
      obtain ⟨bt, hbt⟩ : ∃ x, (bestOf l).1 = x := ⟨_, rfl⟩
      rw [hbt] at HBE
      by_cases h1 : cr < b
      · have HA : Hid (spendE l cr b = 6 ∧ spendC l cr b = cr) := Lib.hid ⟨by unfold spendE; rw [if_neg h0, if_neg hs', if_pos h1], by unfold spendC; rw [if_neg h0, if_neg hs', if_pos h1]⟩
        clear h0 hs hbt hs'
        go_enter Tryz.func14, Tryz.ntmps14
        go_wp2_with fail
        refine (there_set HT.out).mono ?_; rintro e w' ⟨rfl, rfl⟩
        go_wp2_with fail
        refine HBE.out.mono ?_; rintro e w1 ⟨rfl, hB1⟩
        have HB1 := Lib.hid hB1
        have HT1 := Lib.hid (HT.out.below hB1)
        have c1 := HT1.out.c1
        clear hB1
        go_wp2_with fail
        go_ret
        exact ⟨ret_int HA.out.1.symm, by rw [HA.out.2]; exact HT1.out, Keeps.of_below HB1.out⟩
      · have HA : Hid (spendE l cr b = 0 ∧ spendC l cr b = cr - b) := Lib.hid ⟨by unfold spendE; rw [if_neg h0, if_neg hs', if_neg h1], by unfold spendC; rw [if_neg h0, if_neg hs', if_neg h1]⟩
        have h1' : b ≤ cr := by omega
        clear h0 hs hbt hs' h1
        go_enter Tryz.func14, Tryz.ntmps14
        go_wp2_with fail
        refine (there_set HT.out).mono ?_; rintro e w' ⟨rfl, rfl⟩
        go_wp2_with fail
        refine HBE.out.mono ?_; rintro e w1 ⟨rfl, hB1⟩
        have HB1 := Lib.hid hB1
        have HT1 := Lib.hid (HT.out.below hB1)
        have c1 := HT1.out.c1
        have fr := HT1.out.free1 1
        clear hB1
        go_wp2_with fail
        go_ret
        exact ⟨ret_int HA.out.1.symm, by rw [HA.out.2]; exact HT1.out.putC _ (by omega), (Keeps.of_below (M := fun i => i = p) HB1.out).then_ (M' := fun i => i = p) (Keeps.set1 w1 ⟨p, 1, none⟩ _) (fun j hj => .inl hj)⟩
end Go.Proofs.YtgecfcdafbedaaaGreatDoor
