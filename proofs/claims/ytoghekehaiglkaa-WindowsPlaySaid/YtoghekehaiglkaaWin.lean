/- The walks over package windows: what each of its calls does to a window that lies in one block. -/
import Derived.Test.YtoghekehaiglkaaBase
namespace Go.Proofs.Ytoghekehaiglkaa
open Go.RowKit
set_option linter.unusedSimpArgs false
set_option linter.unusedVariables false

theorem made_ne (w : World) : Sem.run Try.prog (Op.equalIn 10000 24 (.agg #[.int .i64 1]) (.agg #[.int .i64 0])) w = .ok false w := by kernel_rfl
theorem made_eq (w : World) : Sem.run Try.prog (Op.equalIn 10000 24 (.agg #[.int .i64 0]) (.agg #[.int .i64 0])) w = .ok true w := by kernel_rfl
attribute [local go_sem] made_ne made_eq

theorem there_nil (w : World) : Calls Try.prog 20 #[.pointer none] w fun e w' => e = .returned (.bool false) ∧ w = w' := by
  go_enter Try.func20, Try.ntmps20
  go_wp2
  go_ret
  exact ⟨rfl, rfl⟩
theorem there_made (w : World) (b : Nat) (hc : w.cell? ⟨b, 0, none⟩ = some (.int .i64 1)) :
    Calls Try.prog 20 #[.pointer (some ⟨b, 0, none⟩)] w fun e w' => e = .returned (.bool true) ∧ w = w' := by
  go_enter Try.func20, Try.ntmps20
  go_wp2
  go_ret
  exact ⟨rfl, rfl⟩
theorem there_not (w : World) (b : Nat) (hc : w.cell? ⟨b, 0, none⟩ = some (.int .i64 0)) :
    Calls Try.prog 20 #[.pointer (some ⟨b, 0, none⟩)] w fun e w' => e = .returned (.bool false) ∧ w = w' := by
  go_enter Try.func20, Try.ntmps20
  go_wp2
  go_ret
  exact ⟨rfl, rfl⟩

/-- A window that lies in block b. -/
def winCells (m : Int) (came : List Int) (top taken : Int) : List Value := .int .i64 m :: came.map (Value.int .u64) ++ [.int .u64 top, .int .u64 taken]
structure Win (w : World) (b : Nat) (m : Int) (came : List Int) (top taken : Int) : Prop where
  len : came.length = 64
  row : Blk w b 27 (winCells m came top taken)
section
variable {w : World} {b : Nat} {m : Int} {came : List Int} {top taken : Int}
theorem Win.cMade (h : Win w b m came top taken) : w.cell? ⟨b, 0, none⟩ = some (.int .i64 m) := by rw [h.row.cell]; rfl
theorem Win.cCame (h : Win w b m came top taken) (i : Nat) (hi : i < 64) : w.cell? ⟨b, 1 + i, none⟩ = some (.int .u64 (came.getD i 0)) := by
  have hl := h.len
  rw [h.row.cell, winCells, Nat.add_comm 1 i]
  simp [List.getElem?_append, hl, hi, List.getD_eq_getElem?_getD]
theorem Win.cTop (h : Win w b m came top taken) : w.cell? ⟨b, 65, none⟩ = some (.int .u64 top) := by
  have hl := h.len
  rw [h.row.cell, winCells]; simp [List.getElem?_append, hl]
theorem Win.cTaken (h : Win w b m came top taken) : w.cell? ⟨b, 66, none⟩ = some (.int .u64 taken) := by
  have hl := h.len
  rw [h.row.cell, winCells]; simp [List.getElem?_append, hl]
theorem Win.lt (h : Win w b m came top taken) : b < w.heap.size := h.row.lt
theorem Win.keep {M : Nat → Prop} {w' : World} (h : Win w b m came top taken) (k : Keeps M w w') (hn : ¬ M b) : Win w' b m came top taken := ⟨h.len, h.row.keep k hn⟩
theorem Win.putCame (h : Win w b m came top taken) (i : Nat) (hi : i < 64) (x : Int) : Win (w.setCell ⟨b, 1 + i, none⟩ (.int .u64 x)) b m (came.set i x) top taken := by
  refine ⟨by simp [h.len], ?_⟩
  have := h.row.put (1 + i) (.int .u64 x)
  have hl := h.len
  rw [show winCells m (came.set i x) top taken = (winCells m came top taken).set (1 + i) (.int .u64 x) from by
    simp [winCells, Nat.add_comm 1 i, List.map_set, List.set_append, hl, hi]]
  exact this
theorem Win.putTop (h : Win w b m came top taken) (x : Int) : Win (w.setCell ⟨b, 65, none⟩ (.int .u64 x)) b m came x taken := by
  refine ⟨h.len, ?_⟩
  have := h.row.put 65 (.int .u64 x)
  have hl := h.len
  rw [show winCells m came x taken = (winCells m came top taken).set 65 (.int .u64 x) from by simp [winCells, List.set_append, hl]]
  exact this
theorem Win.putTaken (h : Win w b m came top taken) (x : Int) : Win (w.setCell ⟨b, 66, none⟩ (.int .u64 x)) b m came top x := by
  refine ⟨h.len, ?_⟩
  have := h.row.put 66 (.int .u64 x)
  have hl := h.len
  rw [show winCells m came top x = (winCells m came top taken).set 66 (.int .u64 x) from by simp [winCells, List.set_append, hl]]
  exact this
end

/-- What Fits answers of a window that was made. -/
def fits (came : List Int) (top n : Int) : Int :=
  if n = 0 then 1 else if n < top ∧ 64 ≤ top - n then 13 else if came[(n % 64).toNat]?.getD 0 = n then 8 else 0

set_option maxHeartbeats 400000 in
theorem fits_made (w : World) (b : Nat) (came : List Int) (top taken n : Int) (h : Win w b 1 came top taken) (h0 : 0 ≤ n) (h1 : n ≤ 18446744073709551615) (t1 : top ≤ 18446744073709551615) :
    Calls Try.prog 9 #[.pointer (some ⟨b, 0, none⟩), .int .u64 n] w fun e w' => e = .returned (.int .i64 (fits came top n)) ∧ w = w' := by
  have hm := h.cMade
  have hc := h.cCame (n % 64).toNat (by omega)
  have ht := h.cTop
  have i0 : 0 ≤ n % 64 := by omega
  have i1 : n % 64 < 64 := by omega
  go_enter Try.func9, Try.ntmps9
  go_wp2_with (go_at_call 20; refine (there_made _ _ hm).mono ?_; rintro e w' ⟨rfl, rfl⟩)
  all_goals
    go_ret
    refine ⟨ret_int ?_, rfl⟩
    simp only [beq_iff_eq, beq_eq_false_iff_ne] at *
    unfold fits
    repeat' split
    all_goals omega

theorem fits_nil (w : World) (n : Int) :
    Calls Try.prog 9 #[.pointer none, .int .u64 n] w fun e w' => e = .returned (.int .i64 2) ∧ w = w' := by
  go_enter Try.func9, Try.ntmps9
  go_wp2_with (go_at_call 20; refine (there_nil _).mono ?_; rintro e w' ⟨rfl, rfl⟩)
  go_ret
  exact ⟨rfl, rfl⟩
theorem fits_not (w : World) (b : Nat) (n : Int) (hm : w.cell? ⟨b, 0, none⟩ = some (.int .i64 0)) :
    Calls Try.prog 9 #[.pointer (some ⟨b, 0, none⟩), .int .u64 n] w fun e w' => e = .returned (.int .i64 2) ∧ w = w' := by
  go_enter Try.func9, Try.ntmps9
  go_wp2_with (go_at_call 20; refine (there_not _ _ hm).mono ?_; rintro e w' ⟨rfl, rfl⟩)
  go_ret
  exact ⟨rfl, rfl⟩

/-- What Take leaves. -/
def takeCame (came : List Int) (top n : Int) : List Int := if fits came top n = 0 then came.set (n % 64).toNat n else came
def takeTop (came : List Int) (top n : Int) : Int := if fits came top n = 0 then max top n else top
def takeTaken (came : List Int) (top taken n : Int) : Int := if fits came top n = 0 then taken + 1 else taken

set_option maxHeartbeats 400000 in
theorem take_made (w : World) (b : Nat) (came : List Int) (top taken n : Int) (hw : Win w b 1 came top taken) (h0 : 0 ≤ n) (h1 : n ≤ 18446744073709551615) (t1 : top ≤ 18446744073709551615)
    (k0 : 0 ≤ taken) (k1 : taken < 18446744073709551615) :
    Calls Try.prog 10 #[.pointer (some ⟨b, 0, none⟩), .int .u64 n] w fun e w' => e = .returned (.int .i64 (fits came top n)) ∧ Win w' b 1 (takeCame came top n) (takeTop came top n) (takeTaken came top taken n) ∧ Keeps (· = b) w w' := by
  have hfc := fits_made w b came top taken n hw h0 h1 t1
  unfold takeCame takeTop takeTaken
  generalize hf : fits came top n = f at *
  have H := Lib.hid hfc
  have i0 : 0 ≤ n % 64 := by omega
  have i1 : n % 64 < 64 := by omega
  have f1 := hw.row.free (1 + (n % 64).toNat)
  have f2 := hw.row.free 65
  have f3 := hw.row.free 66
  have c1 := hw.cCame (n % 64).toNat (by omega)
  have c2 := hw.cTop
  have c3 := hw.cTaken
  clear hfc hf
  by_cases hz : f = 0
  · subst hz
    go_enter Try.func10, Try.ntmps10
    go_wp2_with (go_at_call 9; refine (H.out).mono ?_; rintro e w' ⟨rfl, rfl⟩)
    all_goals
      go_ret
      have hx := ((hw.putCame (n % 64).toNat (by omega) n).putTop (max top n)).putTaken (taken + 1)
      refine ⟨rfl, ?_, Keeps.setCell (Keeps.setCell (Keeps.setCell (Keeps.refl _ _) ?_ _) ?_ _) ?_ _⟩
      rotate_left
      · exact .inl rfl
      · exact .inl rfl
      · exact .inl rfl
      first
        | (rw [show max top n = n from by omega] at hx ⊢; exact hx)
        | (rw [show max top n = top from by omega] at hx ⊢; exact hx)
  · have hb : (f == 0) = false := by simpa using hz
    have hz' := Lib.hid hz
    clear hz
    go_enter Try.func10, Try.ntmps10
    go_wp2_with (go_at_call 9; refine (H.out).mono ?_; rintro e w' ⟨rfl, rfl⟩)
    go_ret
    simp only [if_neg hz'.out]
    exact ⟨rfl, hw, Keeps.refl _ _⟩
theorem take_nil (w : World) (n : Int) :
    Calls Try.prog 10 #[.pointer none, .int .u64 n] w fun e w' => e = .returned (.int .i64 2) ∧ w = w' := by
  go_enter Try.func10, Try.ntmps10
  go_wp2_with (go_at_call 9; refine (fits_nil _ _).mono ?_; rintro e w' ⟨rfl, rfl⟩)
  go_ret
  exact ⟨rfl, rfl⟩
theorem take_not (w : World) (b : Nat) (n : Int) (hm : w.cell? ⟨b, 0, none⟩ = some (.int .i64 0)) :
    Calls Try.prog 10 #[.pointer (some ⟨b, 0, none⟩), .int .u64 n] w fun e w' => e = .returned (.int .i64 2) ∧ w = w' := by
  go_enter Try.func10, Try.ntmps10
  go_wp2_with (go_at_call 9; refine (fits_not _ _ _ hm).mono ?_; rintro e w' ⟨rfl, rfl⟩)
  go_ret
  exact ⟨rfl, rfl⟩
theorem top_made (w : World) (b : Nat) (came : List Int) (top taken : Int) (h : Win w b 1 came top taken) :
    Calls Try.prog 11 #[.pointer (some ⟨b, 0, none⟩)] w fun e w' => e = .returned (.int .u64 top) ∧ w = w' := by
  have hm := h.cMade
  have hc := h.cTop
  go_enter Try.func11, Try.ntmps11
  go_wp2_with (go_at_call 20; refine (there_made _ _ hm).mono ?_; rintro e w' ⟨rfl, rfl⟩)
  go_ret
  exact ⟨rfl, rfl⟩
theorem top_nil (w : World) : Calls Try.prog 11 #[.pointer none] w fun e w' => e = .returned (.int .u64 0) ∧ w = w' := by
  go_enter Try.func11, Try.ntmps11
  go_wp2_with (go_at_call 20; refine (there_nil _).mono ?_; rintro e w' ⟨rfl, rfl⟩)
  go_ret
  exact ⟨rfl, rfl⟩
theorem top_not (w : World) (b : Nat) (hm : w.cell? ⟨b, 0, none⟩ = some (.int .i64 0)) :
    Calls Try.prog 11 #[.pointer (some ⟨b, 0, none⟩)] w fun e w' => e = .returned (.int .u64 0) ∧ w = w' := by
  go_enter Try.func11, Try.ntmps11
  go_wp2_with (go_at_call 20; refine (there_not _ _ hm).mono ?_; rintro e w' ⟨rfl, rfl⟩)
  go_ret
  exact ⟨rfl, rfl⟩
theorem taken_made (w : World) (b : Nat) (came : List Int) (top taken : Int) (h : Win w b 1 came top taken) :
    Calls Try.prog 12 #[.pointer (some ⟨b, 0, none⟩)] w fun e w' => e = .returned (.int .u64 taken) ∧ w = w' := by
  have hm := h.cMade
  have hc := h.cTaken
  go_enter Try.func12, Try.ntmps12
  go_wp2_with (go_at_call 20; refine (there_made _ _ hm).mono ?_; rintro e w' ⟨rfl, rfl⟩)
  go_ret
  exact ⟨rfl, rfl⟩
theorem taken_nil (w : World) : Calls Try.prog 12 #[.pointer none] w fun e w' => e = .returned (.int .u64 0) ∧ w = w' := by
  go_enter Try.func12, Try.ntmps12
  go_wp2_with (go_at_call 20; refine (there_nil _).mono ?_; rintro e w' ⟨rfl, rfl⟩)
  go_ret
  exact ⟨rfl, rfl⟩
theorem taken_not (w : World) (b : Nat) (hm : w.cell? ⟨b, 0, none⟩ = some (.int .i64 0)) :
    Calls Try.prog 12 #[.pointer (some ⟨b, 0, none⟩)] w fun e w' => e = .returned (.int .u64 0) ∧ w = w' := by
  go_enter Try.func12, Try.ntmps12
  go_wp2_with (go_at_call 20; refine (there_not _ _ hm).mono ?_; rintro e w' ⟨rfl, rfl⟩)
  go_ret
  exact ⟨rfl, rfl⟩

/-- Take of a window of which what follows is known. -/
theorem take_step (w0 w : World) (b : Nat) (came came' : List Int) (top top' taken taken' n r : Int) (hw : Win w b 1 came top taken) (hb : Below w0.heap.size w0 w) (hbb : w0.heap.size ≤ b) (h0 : 0 ≤ n) (h1 : n ≤ 18446744073709551615) (t1 : top ≤ 18446744073709551615)
    (k0 : 0 ≤ taken) (k1 : taken < 18446744073709551615) (hr : fits came top n = r) (hc : takeCame came top n = came') (ht : takeTop came top n = top') (hk : takeTaken came top taken n = taken') :
    Calls Try.prog 10 #[.pointer (some ⟨b, 0, none⟩), .int .u64 n] w fun e w' => e = .returned (.int .i64 r) ∧ Win w' b 1 came' top' taken' ∧ Below w0.heap.size w0 w' ∧ Keeps (· = b) w w' :=
  (take_made w b came top taken n hw h0 h1 t1 k0 k1).mono fun e w' ⟨he, hw', hk'⟩ =>
    ⟨by rw [he, hr], by rw [← hc, ← ht, ← hk]; exact hw', below_keeps hb hk' (Nat.le_refl _) (fun i hi => by subst hi; exact hbb), hk'⟩

def noCame : List Int := List.replicate 64 0
set_option maxHeartbeats 400000 in
theorem new_made (w : World) :
    Calls Try.prog 13 #[] w fun e w' => e = .returned (.pointer (some ⟨w.heap.size, 0, none⟩)) ∧ Win w' w.heap.size 1 noCame 0 0 ∧ Below w.heap.size w w' := by
  go_enter Try.func13, Try.ntmps13
  go_wp2_with (refine wpList_value (o := ⟨some 2, .build 27 _, _, _, _, _⟩) (v := .agg (winCells 1 noCame 0 0).toArray) (w' := w) rfl (by kernel_rfl) ?_)
  go_ret
  exact ⟨rfl, ⟨rfl, Blk.new _ _ _⟩, (Below.refl _ _).alloc (Nat.le_refl _) _⟩
end Go.Proofs.Ytoghekehaiglkaa
