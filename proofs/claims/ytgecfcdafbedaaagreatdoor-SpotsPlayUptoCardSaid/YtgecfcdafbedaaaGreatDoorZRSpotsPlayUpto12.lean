/- A row of spots in a block, as a function of the place; what moves them about. -/
import Derived.Test.YtgecfcdafbedaaaGreatDoorZRSpotsPlayUpto1
import Derived.Test.YtgecfcdafbedaaaGreatDoorZRSpotsPlayUpto6
namespace Go.Proofs.YtgecfcdafbedaaaGreatDoor
open Go.RowKit Go.Shelf
set_option linter.unusedSimpArgs false
set_option linter.unusedVariables false

/-- The block g begins with n spots, f's. -/
def RowF (w : World) (g n : Nat) (f : Nat → Int) : Prop := ∃ cs, Blk w g 23 cs ∧ n ≤ cs.length ∧ ∀ j, j < n → cs[j]? = some (.int .u32 (f j))
def setF (f : Nat → Int) (i : Nat) (v : Int) : Nat → Int := fun k => if k = i then v else f k
section
variable {w w' : World} {g n : Nat} {f : Nat → Int} {M : Nat → Prop}
theorem RowF.cell (h : RowF w g n f) {j : Nat} (hj : j < n) : w.cell? ⟨g, j, none⟩ = some (.int .u32 (f j)) := by
  obtain ⟨cs, h1, _, h3⟩ := h
  rw [h1.cell]; exact h3 j hj
theorem RowF.free (h : RowF w g n f) (j : Nat) : w.frozen? ⟨g, j, none⟩ = false := by
  obtain ⟨cs, h1, _⟩ := h
  exact h1.free j
theorem RowF.lt (h : RowF w g n f) : g < w.heap.size := by
  obtain ⟨cs, h1, _⟩ := h
  exact h1.lt
theorem RowF.keep (h : RowF w g n f) (hk : Keeps M w w') (hn : ¬ M g) : RowF w' g n f := by
  obtain ⟨cs, h1, h2⟩ := h
  exact ⟨cs, h1.keep hk hn, h2⟩
theorem RowF.below (h : RowF w g n f) (hB : Below w.heap.size w w') : RowF w' g n f := h.keep (Keeps.of_below (M := fun _ => False) hB) (fun h => h)
theorem RowF.drew (h : RowF w g n f) : RowF w.drew g n f := h
theorem RowF.put (h : RowF w g n f) (i : Nat) (v : Int) (hi : i < n) : RowF (w.setCell ⟨g, i, none⟩ (.int .u32 v)) g n (setF f i v) := by
  obtain ⟨cs, h1, h2, h3⟩ := h
  refine ⟨cs.set i (.int .u32 v), h1.put i _, by rw [List.length_set]; exact h2, fun j hj => ?_⟩
  rw [List.getElem?_set, setF]
  by_cases e : i = j
  · subst e; rw [if_pos rfl, if_pos (by omega), if_pos rfl]
  · rw [if_neg e, if_neg (fun h => e h.symm)]; exact h3 j hj
theorem RowF.ext {f' : Nat → Int} (h : RowF w g n f) (he : ∀ j, j < n → f j = f' j) : RowF w g n f' := by
  obtain ⟨cs, h1, h2, h3⟩ := h
  exact ⟨cs, h1, h2, fun j hj => by rw [← he j hj]; exact h3 j hj⟩
end
theorem RowF.after {w : World} {g n : Nat} {f : Nat → Int} (h : RowF w g n f) (i k : Nat) (hi : i < n) (hk : k < n) (v : Int) : ∃ u, (w.setCell ⟨g, i, none⟩ (.int .u32 v)).cell? ⟨g, k, none⟩ = some (.int .u32 u) := ⟨_, (h.put i v hi).cell hk⟩
theorem RowF.after_free {w : World} {g n : Nat} {f : Nat → Int} (h : RowF w g n f) (i k : Nat) (hi : i < n) (v : Int) : (w.setCell ⟨g, i, none⟩ (.int .u32 v)).frozen? ⟨g, k, none⟩ = false := (h.put i v hi).free k
/-- The same ones, in another order. -/
def Shuf (n : Nat) (f f' : Nat → Int) : Prop :=
  ∃ s : Nat → Nat, (∀ k, k < n → s k < n) ∧ (∀ p q, p < n → q < n → s p = s q → p = q) ∧ (∀ m, m < n → ∃ k, k < n ∧ s k = m) ∧ ∀ k, k < n → f' k = f (s k)
theorem Shuf.refl (n : Nat) (f : Nat → Int) : Shuf n f f := ⟨fun k => k, fun _ h => h, fun _ _ _ _ h => h, fun m h => ⟨m, h, rfl⟩, fun _ _ => rfl⟩
theorem Shuf.trans {n : Nat} {f f' f'' : Nat → Int} (h : Shuf n f f') (k : Shuf n f' f'') : Shuf n f f'' := by
  obtain ⟨s, a1, a2, a3, a4⟩ := h
  obtain ⟨r, b1, b2, b3, b4⟩ := k
  refine ⟨fun k => s (r k), fun k hk => a1 _ (b1 k hk), fun p q hp hq e => b2 p q hp hq (a2 _ _ (b1 p hp) (b1 q hq) e), fun m hm => ?_, fun k hk => by rw [b4 k hk, a4 _ (b1 k hk)]⟩
  obtain ⟨j, hj, e⟩ := a3 m hm
  obtain ⟨l, hl, e2⟩ := b3 j hj
  exact ⟨l, hl, by simp only [e2, e]⟩
theorem Shuf.swap {n : Nat} (f : Nat → Int) (i j : Nat) (hi : i < n) (hj : j < n) : Shuf n f (setF (setF f i (f j)) j (f i)) := by
  refine ⟨fun k => if k = j then i else if k = i then j else k, fun k hk => ?_, fun p q hp hq e => ?_, fun m hm => ?_, fun k hk => ?_⟩
  · dsimp only; split
    · exact hi
    · split
      · exact hj
      · exact hk
  · dsimp only at e
    split at e <;> split at e <;> (try split at e) <;> (try split at e) <;> omega
  · by_cases h1 : m = i
    · exact ⟨j, hj, by simp [h1]⟩
    · by_cases h2 : m = j
      · refine ⟨i, hi, ?_⟩
        dsimp only
        split
        · omega
        · simp [h2]
      · exact ⟨m, hm, by simp [h1, h2]⟩
  · simp only [setF]
    split
    · rfl
    · split
      · rfl
      · rfl
theorem Shuf.swap' {n : Nat} (f : Nat → Int) (i j : Nat) (hi : i < n) (hj : j < n) : Shuf n f (setF (setF f j (f i)) i (f j)) := Shuf.swap f j i hj hi
/-- What a call leaves that moves spots about. -/
def Moved (w : World) (g n : Nat) (f : Nat → Int) (w' : World) : Prop := ∃ f', RowF w' g n f' ∧ Shuf n f f' ∧ Keeps (· = g) w w'
theorem Moved.refl {w : World} {g n : Nat} {f : Nat → Int} (h : RowF w g n f) : Moved w g n f w := ⟨f, h, Shuf.refl _ _, Keeps.refl _ _⟩
theorem Moved.trans {w w' w'' : World} {g n : Nat} {f f' : Nat → Int} (h : Shuf n f f') (hk : Keeps (· = g) w w') (k : Moved w' g n f' w'') : Moved w g n f w'' := by
  obtain ⟨f'', k1, k2, k3⟩ := k
  exact ⟨f'', k1, h.trans k2, hk.trans k3⟩
theorem Keeps.drew0 {M : Nat → Prop} (w : World) : Keeps M w w.drew := (Keeps.refl M w).drew
/-- Two spots change places. -/
theorem swapped {w : World} {g n : Nat} {f : Nat → Int} (h : RowF w g n f) (i j : Nat) (hi : i < n) (hj : j < n) :
    RowF ((w.setCell ⟨g, i, none⟩ (.int .u32 (f j))).setCell ⟨g, j, none⟩ (.int .u32 (f i))) g n (setF (setF f i (f j)) j (f i)) ∧ Shuf n f (setF (setF f i (f j)) j (f i)) ∧ Keeps (· = g) w ((w.setCell ⟨g, i, none⟩ (.int .u32 (f j))).setCell ⟨g, j, none⟩ (.int .u32 (f i))) :=
  ⟨(h.put i _ hi).put j _ hj, Shuf.swap f i j hi hj, ((Keeps.refl (· = g) w).setCell (p := ⟨g, i, none⟩) (.inl rfl) _).setCell (p := ⟨g, j, none⟩) (.inl rfl) _⟩

theorem size_spot : (Tryz.prog.info? 23).map (·.size) = some 1 := by kernel_rfl
/-- A store into one cell, as a step of a region that draws its order. -/
theorem step_store_cell {P : Program} {ops : Array Oper} {a : Act} {w : World} {Q : Exit → Act → World → Prop} {o : Oper} {K : Act → World → Prop} {E : Prop} (hgd : o.guard = none) (ty : TypeId) (x y : Operand) (ho : o.op = .store ty x y)
    (g off : Nat) (v old : Value) (hx : a.eval x = .pointer (some ⟨g, off, none⟩)) (hy : a.eval y = v) (h1 : v.oneCell' = true) (hi : (P.info? ty).map (·.size) = some 1) (hc : w.cell? ⟨g, off, none⟩ = some old) (hf : w.frozen? ⟨g, off, none⟩ = false)
    (h : K (a.put o.dst undef) (w.setCell ⟨g, off, none⟩ v)) : if Region.wanted o (yielded ops a.tmps) = true then Oper.wp P o a w K Q else E := by
  have hw : Region.wanted o (yielded ops a.tmps) = true := by simp [Region.wanted, hgd]
  rw [if_pos hw]
  have hst := run_storeCells_cells (P := P) g off [v] 0 w (fun j hj => by
    obtain rfl : j = 0 := by simpa using hj
    simp [hc]) (fun j hj => by
    obtain rfl : j = 0 := by simpa using hj
    simpa using hf) (fun u hu => by rw [List.mem_singleton] at hu; rw [hu]; exact h1)
  have hcs : v.cells = #[v] := by cases v <;> first | rfl | cases h1
  unfold Oper.wp execOp
  cases hq : P.info? ty with
  | none => simp [hq] at hi
  | some i =>
    have hs : i.size = 1 := by simpa [hq] using hi
    have hr : (storeVar ty ⟨g, off, none⟩ v).run P w = .ok () (w.setCell ⟨g, off, none⟩ v) := by
      simp only [Nat.add_zero, World.setCells] at hst
      simp [storeVar, sizeOf, typeInfo, hq, hcs, hs, hst]
    simp only [ho, hx, hy, Instr.storeAt, Instr.sureAddr, Sem.run_bind, Sem.run_pure, Result.andThen_ok, hr]
    exact h
theorem isnanF_any (x : Int) (w : World) : Calls Tryz.prog 150 #[.int .u32 x] w fun e w' => e = .returned (.bool false) ∧ w' = w := by
  go_enter Tryz.func150, Tryz.ntmps150
  go_wp2_with fail
  go_ret
  exact ⟨rfl, rfl⟩
theorem lessF_any (x y : Int) (w : World) : Calls Tryz.prog 138 #[.int .u32 x, .int .u32 y] w fun e w' => e = .returned (.bool (decide (x < y))) ∧ w = w' := by
  obtain ⟨q, hq⟩ : ∃ q, decide (x < y) = q := ⟨_, rfl⟩
  have HQ := Lib.hid hq
  cases q with
  | true =>
    go_enter Tryz.func138, Tryz.ntmps138
    go_wp2_with (first | (go_at_call 150; refine (isnanF_any _ _).mono ?_; rintro e w' ⟨rfl, rfl⟩))
    go_ret
    exact ⟨ret_bool (by rw [HQ.out]), rfl⟩
  | false =>
    go_enter Tryz.func138, Tryz.ntmps138
    go_wp2_with (first | (go_at_call 150; refine (isnanF_any _ _).mono ?_; rintro e w' ⟨rfl, rfl⟩))
    go_ret
    exact ⟨ret_bool (by rw [HQ.out]), rfl⟩
end Go.Proofs.YtgecfcdafbedaaaGreatDoor
