/- Rows of elements of the call's own, of whose block a slice may reach less than there is; append of one element, told closer; a row's store in a drawn region. -/
import Derived.Test.YtadpgodmkodgdaaZRGuidesOrigin5
import Derived.Test.YtadpgodmkodgdaaZRGuidesOrigin4
import Derived.Deep.RegionHeld3
import Derived.Deep.DrawnRows
import Derived.ArgAppend
namespace Go.Proofs.Ytadpgodmkodgdaa
open Go.RowKit
set_option linter.unusedSimpArgs false
set_option linter.unusedVariables false

/-- What lies in blocks of such a type, from base on, and what is new. -/
def ByTy (base : Nat) (T : TypeId) (w : World) (i : Nat) : Prop := (base ≤ i ∧ ∃ cur, w.heap[i]? = some (.cells cur T (0, 0))) ∨ w.heap.size ≤ i
/-- A row of elements of the call's own, of whose block the slice may reach less than there is. -/
def RowG (E : TypeId) (q base : Nat) (w : World) (v : Value) (n : Nat) (cs : List Value) : Prop :=
  ∃ A c c', v = .slice A n c ∧ n ≤ c ∧ c ≤ c' ∧ w.ownsRow base E q (.slice A n c') n cs
theorem cap_block (A : Option Addr) (n c n' c' : Nat) : (Value.slice A n c).ownBlock = (Value.slice A n' c').ownBlock := by cases A <;> rfl
theorem ty_one {w : World} {i : Nat} {cur cur' : Array Value} {t t' : TypeId} {f f' : Nat × Nat} (h : w.heap[i]? = some (.cells cur t f)) (h' : w.heap[i]? = some (.cells cur' t' f')) : t = t' := by
  rw [h] at h'
  injection h' with h'
  injection h' with _ h' _
theorem own_type {w : World} {base : Nat} {e : TypeId} {size n g : Nat} {v : Value} {xs : List Value} (h : w.ownsRow base e size v n xs) (hg : v.ownBlock = some g) : base ≤ g ∧ g < w.heap.size ∧ ∃ cur, w.heap[g]? = some (.cells cur e (0, 0)) := by
  rcases h.2 with ⟨rfl, _⟩ | ⟨g', cap, cur, rfl, hb, hh, _⟩
  · simp [Value.ownBlock] at hg
  · have : g' = g := by simpa [Value.ownBlock] using hg
    subst this
    exact ⟨hb, (Array.getElem?_eq_some_iff.1 hh).1, cur, hh⟩
theorem own_lower {w : World} {base base' : Nat} {e : TypeId} {size n : Nat} {v : Value} {xs : List Value} (h : w.ownsRow base e size v n xs) (hb : base' ≤ base) : w.ownsRow base' e size v n xs := by
  refine ⟨h.1, ?_⟩
  rcases h.2 with h1 | ⟨g, cap, cur, h1, h2, h3⟩
  · exact .inl h1
  · exact .inr ⟨g, cap, cur, h1, Nat.le_trans hb h2, h3⟩
/-- Cells of a row, written anew. -/
theorem own_setCells {base g n cap size : Nat} {e : TypeId} : ∀ (vs : List Value) (o : Nat) (w : World) (xs : List Value), w.ownsRow base e size (.slice (some ⟨g, 0, none⟩) n cap) n xs → o + vs.length ≤ xs.length → (w.setCells g o vs).ownsRow base e size (.slice (some ⟨g, 0, none⟩) n cap) n (splice xs o vs)
  | [], o, w, xs, h, _ => by simpa [World.setCells, splice] using h
  | v :: r, o, w, xs, h, hl => by
    rw [World.setCells]
    have h1 := own_setCells r (o + 1) _ _ (h.stored o v).1 (by simp at hl ⊢; omega)
    have e : splice (xs.set o v) (o + 1) r = splice xs o (v :: r) := by
      simp only [List.length_cons] at hl
      simp only [splice, List.length_cons]
      rw [show o + (r.length + 1) = o + 1 + r.length by omega]
      have e1 : (xs.set o v).take (o + 1) = xs.take o ++ [v] := by
        rw [List.take_succ_eq_append_getElem (by simp; omega), List.take_set]
        have : (xs.take o).set o v = xs.take o := List.set_eq_of_length_le (by simp; omega)
        rw [this]; simp
      rw [e1, List.drop_set_of_lt (by omega)]
      simp
    rwa [e] at h1
section
variable {E : TypeId} {q base : Nat} {w w' : World} {v : Value} {n : Nat} {cs : List Value}
theorem RowG.of_own (h : w.ownsRow base E q v n cs) : RowG E q base w v n cs := by
  obtain ⟨A, c, rfl, hc, -⟩ := own_slice h
  exact ⟨A, c, c, rfl, hc, Nat.le_refl _, h⟩
theorem RowG.keep {M : Nat → Prop} (hr : RowG E q base w v n cs) (hk : Keeps M w w') (hM : ∀ k, v.ownBlock = some k → ¬ M k) : RowG E q base w' v n cs := by
  obtain ⟨A, c, c', rfl, h1, h2, h3⟩ := hr
  exact ⟨A, c, c', rfl, h1, h2, hk.own h3 (fun k hk' => hM k (by rw [cap_block A n c n c']; exact hk'))⟩
theorem RowG.below (hr : RowG E q base w v n cs) (hB : Below w.heap.size w w') : RowG E q base w' v n cs := hr.keep (Keeps.of_below (M := fun _ => False) hB) (fun _ _ h => h)
theorem RowG.slice (hr : RowG E q base w v n cs) : ∃ A c, v = .slice A n c ∧ n ≤ c := by
  obtain ⟨A, c, c', rfl, h1, _, _⟩ := hr
  exact ⟨A, c, rfl, h1⟩
theorem RowG.len (hr : RowG E q base w v n cs) : cs.length = n * q := by obtain ⟨A, c, c', rfl, h1, h2, h3⟩ := hr; exact h3.1
theorem RowG.ty (hr : RowG E q base w v n cs) {k : Nat} (hk : v.ownBlock = some k) : base ≤ k ∧ k < w.heap.size ∧ ∃ cur, w.heap[k]? = some (.cells cur E (0, 0)) := by
  obtain ⟨A, c, c', rfl, _, _, h⟩ := hr
  exact own_type h (by rw [cap_block A n c' n c]; exact hk)
theorem RowG.lower {base' : Nat} (hr : RowG E q base w v n cs) (hb : base' ≤ base) : RowG E q base' w v n cs := by
  obtain ⟨A, c, c', rfl, h1, h2, h3⟩ := hr
  exact ⟨A, c, c', rfl, h1, h2, own_lower h3 hb⟩
/-- Rows of unlike types leave one another. -/
theorem RowG.keepTy {T : TypeId} {M : Nat → Prop} {base' : Nat} (hr : RowG E q base w v n cs) (hk : Keeps M w w') (hM : ∀ i, M i → ByTy base' T w i) (hne : E ≠ T) : RowG E q base w' v n cs :=
  hr.keep hk (fun k hk2 hm => by
    obtain ⟨_, hlt, cur, h2⟩ := hr.ty hk2
    rcases hM k hm with ⟨_, cur', h3⟩ | h3
    · exact hne (ty_one h2 h3)
    · omega)
/-- The row's cells, and that they may be written. -/
theorem RowG.at_ (hr : RowG E q base w v n cs) (h0 : 0 < n) : ∃ g c, v = .slice (some ⟨g, 0, none⟩) n c ∧ n ≤ c ∧ base ≤ g ∧ g < w.heap.size ∧ (∀ j u, cs[j]? = some u → w.cell? ⟨g, j, none⟩ = some u) ∧ ∀ j, w.frozen? ⟨g, j, none⟩ = false := by
  obtain ⟨A, c, c', rfl, h1, h2, h3⟩ := hr
  obtain ⟨_, c2, e, _, _, hp⟩ := own_slice h3
  injection e with e _ _
  subst e
  obtain ⟨g, rfl, hb, hg, ho⟩ := hp h0
  refine ⟨g, c, rfl, h1, hb, hg, fun j u hj => ?_, fun j => h3.frozenAt j⟩
  have := h3.cells ho j u hj
  have ha : (⟨g, 0, none⟩ : Addr).add j = ⟨g, j, none⟩ := by unfold Addr.add; split <;> simp_all
  rwa [ha] at this
theorem RowG.set {g c : Nat} {vs : List Value} {o : Nat} (hr : RowG E q base w (.slice (some ⟨g, 0, none⟩) n c) n cs) (ho : o + vs.length ≤ cs.length) : RowG E q base (w.setCells g o vs) (.slice (some ⟨g, 0, none⟩) n c) n (splice cs o vs) := by
  obtain ⟨A, c1, c', e, h1, h2, h3⟩ := hr
  injection e with e1 _ e2
  subst e1; subst e2
  exact ⟨_, c, c', rfl, h1, h2, own_setCells vs o w cs h3 ho⟩
end
theorem drew_belowB (w : World) : Below w.heap.size w w.drew := ⟨rfl, rfl, rfl, Nat.le_refl _, fun _ _ => rfl⟩
theorem new_belowB (w : World) (o : Obj) : Below w.heap.size w (w.alloc o) := (Below.refl _ _).alloc (Nat.le_refl _) _
theorem step_store_row {P : Program} {ops : Array Oper} {a : Act} {w : World} {Q : Exit → Act → World → Prop} {o : Oper} {K : Act → World → Prop} {E : Prop} (hgd : o.guard = none) (ty : TypeId) (x y : Operand) (ho : o.op = .store ty x y)
    (b off : Nat) (cells : Array Value) (hx : a.eval x = .pointer (some ⟨b, off, none⟩)) (hy : a.eval y = .agg cells)
    (ht : w.there b off cells.size) (hi : (P.info? ty).map (·.size) = some cells.size) (h1 : cells.all (·.oneCell') = true)
    (h : K (a.put o.dst undef) (w.setCells b off cells.toList)) : if Region.wanted o (yielded ops a.tmps) = true then Oper.wp P o a w K Q else E := by
  have hw : Region.wanted o (yielded ops a.tmps) = true := by simp [Region.wanted, hgd]
  rw [if_pos hw]
  exact wp_store_mid ty x y ho b off cells hx hy ht hi h1 h

section
variable {P : Program} {ops : Array Oper} {rest : List Oper} {o : Oper} {a : Act} {Q : Exit → Act → World → Prop}
/-- append of one element: in its own block, or in a new one, all old ones as they were. -/
theorem append_el {W : World} (base : Nat) (hgd : o.guard = none) (s x : Operand) (t E : TypeId) (z : Value) (q bytes : Nat)
    (ho : o.op = .call { callee := .builtin .append, args := #[s, x], argTypes := #[t, t] })
    (ht : P.underlying t = some (.slice E)) (hinfo : (P.info? E).map (fun i => (i.zero, i.size, i.bytes)) = some (some z, q, bytes)) (hzs : z.cells.size = q) (hsz : 0 < q) (hb0 : 0 < bytes)
    (A : Option Addr) (n c : Nat) (xs ys : List Value) (hys : ys.length = q) (h1 : ∀ u ∈ ys, u.oneCell' = true) (hs : a.eval s = .slice A n c) (hx : a.eval x = .slice (some ⟨W.heap.size, 0, none⟩) 1 1)
    (HO : RowG E q base W (.slice A n c) n xs) (hbase : base ≤ W.heap.size) (hl : (n + 1) * bytes ≤ 140737488355328)
    (h : ∀ v1 w1, RowG E q base w1 v1 (n + 1) (xs ++ ys) → ((v1.ownBlock = (Value.slice A n c).ownBlock ∧ (Value.slice A n c).ownBlock ≠ none ∧ Keeps (fun i => (Value.slice A n c).ownBlock = some i) W w1) ∨ (∃ b, v1.ownBlock = some b ∧ W.heap.size ≤ b ∧ Below W.heap.size W w1)) → wpList P ops Q rest (a.put o.dst v1) w1) :
    wpList P ops Q (o :: rest) a (W.alloc (.cells ys.toArray E)) := by
  obtain ⟨i0, hi, hzz⟩ := Option.map_eq_some_iff.1 hinfo
  simp only [Prod.mk.injEq] at hzz
  obtain ⟨hz0, hz1, hz2⟩ := hzz
  have hlen : n + 1 ≤ 140737488355328 := Nat.le_trans (Nat.le_mul_of_pos_right _ hb0) hl
  have hnews := World.news_of_block (cs := ys.toArray) (t := E) (fr := (0, 0)) (heap_alloc_new W (.cells ys.toArray E))
  have hB1 : Below W.heap.size W (W.alloc (.cells ys.toArray E)) := (Below.refl _ _).alloc (Nat.le_refl _) _
  have hm63 : n + 1 ≤ maxLen := by unfold maxLen; omega
  have hbz : base ≤ (W.alloc (.cells ys.toArray E)).heap.size := by simp; omega
  have key : ∃ v' w', (Builtin.append_ #[t, t] o.type #[.slice A n c, .slice (some ⟨W.heap.size, 0, none⟩) 1 1]).run P (W.alloc (.cells ys.toArray E)) = .ok v' w' ∧ RowG E q base w' v' (n + 1) (xs ++ ys) ∧
      ((v'.ownBlock = (Value.slice A n c).ownBlock ∧ (Value.slice A n c).ownBlock ≠ none ∧ Keeps (fun i => (Value.slice A n c).ownBlock = some i) W w') ∨ (∃ b, v'.ownBlock = some b ∧ W.heap.size ≤ b ∧ Below W.heap.size W w')) := by
    obtain ⟨A', c1, c', e, hnc, hcc, hown⟩ := HO
    injection e with e1 _ e2
    subst e1; subst e2
    rcases hown.2 with ⟨hv, hn0⟩ | ⟨g, cap, cur, hv, hb, hh, hc, hm, hcs, htk⟩
    · injection hv with e1 e2 e3
      subst e1; subst e2; subst e3
      obtain rfl : c = 0 := by omega
      obtain ⟨v', w', hr, h2, h3, _, h5⟩ := run_append_own_at (P := P) (W.alloc (.cells ys.toArray E)) base t o.type E i0 z q bytes ht hi hz0 hz1 hz2 hzs hsz (.slice none 0 0) 0 _ (hown.alloc _) ⟨W.heap.size, 0, none⟩ 1 1 ys (by omega) hnews h1 hm63 hl hbz
      refine ⟨v', w', hr, RowG.of_own h2, ?_⟩
      rcases h5 with h5 | h5
      · exfalso
        rcases h2.2 with ⟨_, h6⟩ | ⟨g', c', cur', h6, _⟩
        · omega
        · rw [h6] at h5; simp [Value.ownBlock] at h5
      · refine .inr ⟨_, h5, by simp, hB1.trans ?_⟩
        exact ⟨h3.os, h3.tape, h3.output, h3.size, fun i hi => h3.block i (Nat.lt_of_lt_of_le hi hB1.size) (by simp [Value.ownBlock])⟩
    · injection hv with e1 _ e3
      subst e1; subst e3
      have hh' : (W.alloc (.cells ys.toArray E)).heap[g]? = some (.cells cur E (0, 0)) := (Below.heap_alloc W _ g (Array.getElem?_eq_some_iff.1 hh).1).trans hh
      by_cases hroom : n + 1 ≤ c
      · have hfit : n * q + ys.length ≤ cur.size := by rw [hcs, hys, ← Nat.succ_mul]; exact Nat.mul_le_mul_right _ (by omega)
        have hst := run_append_room (P := P) (W.alloc (.cells ys.toArray E)) t o.type E i0 ht hi g n c cur hh' ⟨W.heap.size, 0, none⟩ 1 1 ys (by rw [hz1]; omega) hnews h1 hroom (by rw [hz1]; exact hfit)
        have hst2 := run_append_room (P := P) (W.alloc (.cells ys.toArray E)) t o.type E i0 ht hi g n c' cur hh' ⟨W.heap.size, 0, none⟩ 1 1 ys (by rw [hz1]; omega) hnews h1 (by omega) (by rw [hz1]; exact hfit)
        obtain ⟨v', w', hr, h2, h3, _, h5⟩ := run_append_own_at (P := P) (W.alloc (.cells ys.toArray E)) base t o.type E i0 z q bytes ht hi hz0 hz1 hz2 hzs hsz (.slice (some ⟨g, 0, none⟩) n c') n _ (hown.alloc _) ⟨W.heap.size, 0, none⟩ 1 1 ys (by omega) hnews h1 hm63 hl hbz
        rw [hr] at hst2
        injection hst2 with e1 e2
        rw [← e2] at hst
        rw [e1] at h2
        exact ⟨_, _, hst, ⟨_, c, c', rfl, hroom, hcc, h2⟩, .inl ⟨rfl, by simp [Value.ownBlock], Keeps.grown ((Keeps.refl _ W).alloc _) h3 (fun k hk => .inl hk)⟩⟩
      · have holds : ∀ j u, xs[j]? = some u → (W.alloc (.cells ys.toArray E)).cell? ((⟨g, 0, none⟩ : Addr).add j) = some u := fun j u hu => (hown.alloc _).cells (g := g) rfl j u hu
        obtain ⟨v', w', hr, h2, h3⟩ := run_append_arg_grows (P := P) (W.alloc (.cells ys.toArray E)) t o.type E i0 z q bytes ht hi hz0 hz1 hz2 hzs hsz ⟨g, 0, none⟩ n c xs hown.1 holds ⟨W.heap.size, 0, none⟩ 1 1 ys (by omega) hnews (by omega) hm63 hl
        obtain ⟨A2, c2, e2, hc2, _, hp2⟩ := own_slice h2
        obtain ⟨g2, rfl, hg2, hlt2, hob2⟩ := hp2 (by omega)
        subst e2
        refine ⟨_, _, hr, (RowG.of_own h2).lower (Nat.le_trans hbase hB1.size), .inr ⟨g2, rfl, Nat.le_trans hB1.size hg2, hB1.trans ?_⟩⟩
        exact ⟨h3.os, h3.tape, h3.output, h3.size, fun i hi => h3.block i (Nat.lt_of_lt_of_le hi hB1.size) (by simp)⟩
  obtain ⟨v', w', hr, h2, hcase⟩ := key
  refine wpList_plain hgd fun K hK => ?_
  unfold Oper.wp execOp
  simp only [ho, resolve, invoke, builtin, Sem.run_bind, Sem.run_pure, Result.andThen_ok, List.map_toArray, List.map_cons, List.map_nil, hs, hx, hr]
  exact hK _ _ (h v' w' h2 hcase)
end
end Go.Proofs.Ytadpgodmkodgdaa
