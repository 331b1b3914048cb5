/- Rows of elements of the call's own, of whose block a slice may reach less than there is; append of one element, told closer; a row's store in a drawn region; The walk over packets.Put: a packet as bytes. -/
import Derived.Test.YtadpgodmkodgdaaXRGuidesRoom5
import Derived.Test.YtadpgodmkodgdaaXRGuidesRoom4
import Derived.Deep.RegionHeld3
import Derived.Deep.DrawnRows
import Derived.ArgAppend
import Derived.Test.YtadpgodmkodgdaaXRGuidesRoom18
import Derived.Test.YtadpgodmkodgdaaXRGuidesRoom20
import Derived.Test.YtadpgodmkodgdaaXRGuidesRoom23
import Derived.Test.YtadpgodmkodgdaaXRGuidesRoom21
namespace Go.Proofs.Ytadpgodmkodgdaa
open Go.RowKit
set_option linter.unusedSimpArgs false
set_option linter.unusedVariables false

/-- What lies in blocks of such a type, from base on, and what is new. -/
def ByTy (base : Nat) (T : TypeId) (w : World) (i : Nat) : Prop := (base ≤ i ∧ ∃ cur, w.heap[i]? = some (.cells cur T (0, 0))) ∨ w.heap.size ≤ i
/-- A row of elements of the call's own, of whose block the slice may reach less than there is. -/
def RowG (E : TypeId) (q base : Nat) (w : World) (v : Value) (n : Nat) (cs : List Value) : Prop :=
  ∃ A c c', v = .slice A n c ∧ n ≤ c ∧ c ≤ c' ∧ w.ownsRow base E q (.slice A n c') n cs
theorem cap_block (A : Option Addr) (n c n' c' : Nat) : (Value.slice A n c).ownBlock = (Value.slice A n' c').ownBlock := by cases A <;> rfl
theorem ty_one {w : World} {i : Nat} {cur cur' : Array Value} {t t' : TypeId} {f f' : Nat × Nat} (h : w.heap[i]? = some (.cells cur t f)) (h' : w.heap[i]? = some (.cells cur' t' f')) : t = t' := by
  rw [h] at h'
  injection h' with h'
  injection h' with _ h' _
theorem own_type {w : World} {base : Nat} {e : TypeId} {size n g : Nat} {v : Value} {xs : List Value} (h : w.ownsRow base e size v n xs) (hg : v.ownBlock = some g) : base ≤ g ∧ g < w.heap.size ∧ ∃ cur, w.heap[g]? = some (.cells cur e (0, 0)) := by
  rcases h.2 with ⟨rfl, _⟩ | ⟨g', cap, cur, rfl, hb, hh, _⟩
  · simp [Value.ownBlock] at hg
  · have : g' = g := by simpa [Value.ownBlock] using hg
    subst this
    exact ⟨hb, (Array.getElem?_eq_some_iff.1 hh).1, cur, hh⟩
theorem own_lower {w : World} {base base' : Nat} {e : TypeId} {size n : Nat} {v : Value} {xs : List Value} (h : w.ownsRow base e size v n xs) (hb : base' ≤ base) : w.ownsRow base' e size v n xs := by
  refine ⟨h.1, ?_⟩
  rcases h.2 with h1 | ⟨g, cap, cur, h1, h2, h3⟩
  · exact .inl h1
  · exact .inr ⟨g, cap, cur, h1, Nat.le_trans hb h2, h3⟩
/-- Cells of a row, written anew. -/
theorem own_setCells {base g n cap size : Nat} {e : TypeId} : ∀ (vs : List Value) (o : Nat) (w : World) (xs : List Value), w.ownsRow base e size (.slice (some ⟨g, 0, none⟩) n cap) n xs → o + vs.length ≤ xs.length → (w.setCells g o vs).ownsRow base e size (.slice (some ⟨g, 0, none⟩) n cap) n (splice xs o vs)
  | [], o, w, xs, h, _ => by simpa [World.setCells, splice] using h
  | v :: r, o, w, xs, h, hl => by
    rw [World.setCells]
    have h1 := own_setCells r (o + 1) _ _ (h.stored o v).1 (by simp at hl ⊢; omega)
    have e : splice (xs.set o v) (o + 1) r = splice xs o (v :: r) := by
      simp only [List.length_cons] at hl
      simp only [splice, List.length_cons]
      rw [show o + (r.length + 1) = o + 1 + r.length by omega]
      have e1 : (xs.set o v).take (o + 1) = xs.take o ++ [v] := by
        rw [List.take_succ_eq_append_getElem (by simp; omega), List.take_set]
        have : (xs.take o).set o v = xs.take o := List.set_eq_of_length_le (by simp; omega)
        rw [this]; simp
      rw [e1, List.drop_set_of_lt (by omega)]
      simp
    rwa [e] at h1
section
variable {E : TypeId} {q base : Nat} {w w' : World} {v : Value} {n : Nat} {cs : List Value}
theorem RowG.of_own (h : w.ownsRow base E q v n cs) : RowG E q base w v n cs := by
  obtain ⟨A, c, rfl, hc, -⟩ := own_slice h
  exact ⟨A, c, c, rfl, hc, Nat.le_refl _, h⟩
theorem RowG.keep {M : Nat → Prop} (hr : RowG E q base w v n cs) (hk : Keeps M w w') (hM : ∀ k, v.ownBlock = some k → ¬ M k) : RowG E q base w' v n cs := by
  obtain ⟨A, c, c', rfl, h1, h2, h3⟩ := hr
  exact ⟨A, c, c', rfl, h1, h2, hk.own h3 (fun k hk' => hM k (by rw [cap_block A n c n c']; exact hk'))⟩
theorem RowG.below (hr : RowG E q base w v n cs) (hB : Below w.heap.size w w') : RowG E q base w' v n cs := hr.keep (Keeps.of_below (M := fun _ => False) hB) (fun _ _ h => h)
theorem RowG.slice (hr : RowG E q base w v n cs) : ∃ A c, v = .slice A n c ∧ n ≤ c := by
  obtain ⟨A, c, c', rfl, h1, _, _⟩ := hr
  exact ⟨A, c, rfl, h1⟩
theorem RowG.len (hr : RowG E q base w v n cs) : cs.length = n * q := by obtain ⟨A, c, c', rfl, h1, h2, h3⟩ := hr; exact h3.1
theorem RowG.ty (hr : RowG E q base w v n cs) {k : Nat} (hk : v.ownBlock = some k) : base ≤ k ∧ k < w.heap.size ∧ ∃ cur, w.heap[k]? = some (.cells cur E (0, 0)) := by
  obtain ⟨A, c, c', rfl, _, _, h⟩ := hr
  exact own_type h (by rw [cap_block A n c' n c]; exact hk)
theorem RowG.lower {base' : Nat} (hr : RowG E q base w v n cs) (hb : base' ≤ base) : RowG E q base' w v n cs := by
  obtain ⟨A, c, c', rfl, h1, h2, h3⟩ := hr
  exact ⟨A, c, c', rfl, h1, h2, own_lower h3 hb⟩
/-- Rows of unlike types leave one another. -/
theorem RowG.keepTy {T : TypeId} {M : Nat → Prop} {base' : Nat} (hr : RowG E q base w v n cs) (hk : Keeps M w w') (hM : ∀ i, M i → ByTy base' T w i) (hne : E ≠ T) : RowG E q base w' v n cs :=
  hr.keep hk (fun k hk2 hm => by
    obtain ⟨_, hlt, cur, h2⟩ := hr.ty hk2
    rcases hM k hm with ⟨_, cur', h3⟩ | h3
    · exact hne (ty_one h2 h3)
    · omega)
/-- The row's cells, and that they may be written. -/
theorem RowG.at_ (hr : RowG E q base w v n cs) (h0 : 0 < n) : ∃ g c, v = .slice (some ⟨g, 0, none⟩) n c ∧ n ≤ c ∧ base ≤ g ∧ g < w.heap.size ∧ (∀ j u, cs[j]? = some u → w.cell? ⟨g, j, none⟩ = some u) ∧ ∀ j, w.frozen? ⟨g, j, none⟩ = false := by
  obtain ⟨A, c, c', rfl, h1, h2, h3⟩ := hr
  obtain ⟨_, c2, e, _, _, hp⟩ := own_slice h3
  injection e with e _ _
  subst e
  obtain ⟨g, rfl, hb, hg, ho⟩ := hp h0
  refine ⟨g, c, rfl, h1, hb, hg, fun j u hj => ?_, fun j => h3.frozenAt j⟩
  have := h3.cells ho j u hj
  have ha : (⟨g, 0, none⟩ : Addr).add j = ⟨g, j, none⟩ := by unfold Addr.add; split <;> simp_all
  rwa [ha] at this
theorem RowG.set {g c : Nat} {vs : List Value} {o : Nat} (hr : RowG E q base w (.slice (some ⟨g, 0, none⟩) n c) n cs) (ho : o + vs.length ≤ cs.length) : RowG E q base (w.setCells g o vs) (.slice (some ⟨g, 0, none⟩) n c) n (splice cs o vs) := by
  obtain ⟨A, c1, c', e, h1, h2, h3⟩ := hr
  injection e with e1 _ e2
  subst e1; subst e2
  exact ⟨_, c, c', rfl, h1, h2, own_setCells vs o w cs h3 ho⟩
end
theorem drew_belowB (w : World) : Below w.heap.size w w.drew := ⟨rfl, rfl, rfl, Nat.le_refl _, fun _ _ => rfl⟩
theorem new_belowB (w : World) (o : Obj) : Below w.heap.size w (w.alloc o) := (Below.refl _ _).alloc (Nat.le_refl _) _
theorem step_store_row {P : Program} {ops : Array Oper} {a : Act} {w : World} {Q : Exit → Act → World → Prop} {o : Oper} {K : Act → World → Prop} {E : Prop} (hgd : o.guard = none) (ty : TypeId) (x y : Operand) (ho : o.op = .store ty x y)
    (b off : Nat) (cells : Array Value) (hx : a.eval x = .pointer (some ⟨b, off, none⟩)) (hy : a.eval y = .agg cells)
    (ht : w.there b off cells.size) (hi : (P.info? ty).map (·.size) = some cells.size) (h1 : cells.all (·.oneCell') = true)
    (h : K (a.put o.dst undef) (w.setCells b off cells.toList)) : if Region.wanted o (yielded ops a.tmps) = true then Oper.wp P o a w K Q else E := by
  have hw : Region.wanted o (yielded ops a.tmps) = true := by simp [Region.wanted, hgd]
  rw [if_pos hw]
  exact wp_store_mid ty x y ho b off cells hx hy ht hi h1 h

section
variable {P : Program} {ops : Array Oper} {rest : List Oper} {o : Oper} {a : Act} {Q : Exit → Act → World → Prop}
/-- append of one element: in its own block, or in a new one, all old ones as they were. -/
theorem append_el {W : World} (base : Nat) (hgd : o.guard = none) (s x : Operand) (t E : TypeId) (z : Value) (q bytes : Nat)
    (ho : o.op = .call { callee := .builtin .append, args := #[s, x], argTypes := #[t, t] })
    (ht : P.underlying t = some (.slice E)) (hinfo : (P.info? E).map (fun i => (i.zero, i.size, i.bytes)) = some (some z, q, bytes)) (hzs : z.cells.size = q) (hsz : 0 < q) (hb0 : 0 < bytes)
    (A : Option Addr) (n c : Nat) (xs ys : List Value) (hys : ys.length = q) (h1 : ∀ u ∈ ys, u.oneCell' = true) (hs : a.eval s = .slice A n c) (hx : a.eval x = .slice (some ⟨W.heap.size, 0, none⟩) 1 1)
    (HO : RowG E q base W (.slice A n c) n xs) (hbase : base ≤ W.heap.size) (hl : (n + 1) * bytes ≤ 140737488355328)
    (h : ∀ v1 w1, RowG E q base w1 v1 (n + 1) (xs ++ ys) → ((v1.ownBlock = (Value.slice A n c).ownBlock ∧ (Value.slice A n c).ownBlock ≠ none ∧ Keeps (fun i => (Value.slice A n c).ownBlock = some i) W w1) ∨ (∃ b, v1.ownBlock = some b ∧ W.heap.size ≤ b ∧ Below W.heap.size W w1)) → wpList P ops Q rest (a.put o.dst v1) w1) :
    wpList P ops Q (o :: rest) a (W.alloc (.cells ys.toArray E)) := by
  obtain ⟨i0, hi, hzz⟩ := Option.map_eq_some_iff.1 hinfo
  simp only [Prod.mk.injEq] at hzz
  obtain ⟨hz0, hz1, hz2⟩ := hzz
  have hlen : n + 1 ≤ 140737488355328 := Nat.le_trans (Nat.le_mul_of_pos_right _ hb0) hl
  have hnews := World.news_of_block (cs := ys.toArray) (t := E) (fr := (0, 0)) (heap_alloc_new W (.cells ys.toArray E))
  have hB1 : Below W.heap.size W (W.alloc (.cells ys.toArray E)) := (Below.refl _ _).alloc (Nat.le_refl _) _
  have hm63 : n + 1 ≤ maxLen := by unfold maxLen; omega
  have hbz : base ≤ (W.alloc (.cells ys.toArray E)).heap.size := by simp; omega
  have key : ∃ v' w', (Builtin.append_ #[t, t] o.type #[.slice A n c, .slice (some ⟨W.heap.size, 0, none⟩) 1 1]).run P (W.alloc (.cells ys.toArray E)) = .ok v' w' ∧ RowG E q base w' v' (n + 1) (xs ++ ys) ∧
      ((v'.ownBlock = (Value.slice A n c).ownBlock ∧ (Value.slice A n c).ownBlock ≠ none ∧ Keeps (fun i => (Value.slice A n c).ownBlock = some i) W w') ∨ (∃ b, v'.ownBlock = some b ∧ W.heap.size ≤ b ∧ Below W.heap.size W w')) := by
    obtain ⟨A', c1, c', e, hnc, hcc, hown⟩ := HO
    injection e with e1 _ e2
    subst e1; subst e2
    rcases hown.2 with ⟨hv, hn0⟩ | ⟨g, cap, cur, hv, hb, hh, hc, hm, hcs, htk⟩
    · injection hv with e1 e2 e3
      subst e1; subst e2; subst e3
      obtain rfl : c = 0 := by omega
      obtain ⟨v', w', hr, h2, h3, _, h5⟩ := run_append_own_at (P := P) (W.alloc (.cells ys.toArray E)) base t o.type E i0 z q bytes ht hi hz0 hz1 hz2 hzs hsz (.slice none 0 0) 0 _ (hown.alloc _) ⟨W.heap.size, 0, none⟩ 1 1 ys (by omega) hnews h1 hm63 hl hbz
      refine ⟨v', w', hr, RowG.of_own h2, ?_⟩
      rcases h5 with h5 | h5
      · exfalso
        rcases h2.2 with ⟨_, h6⟩ | ⟨g', c', cur', h6, _⟩
        · omega
        · rw [h6] at h5; simp [Value.ownBlock] at h5
      · refine .inr ⟨_, h5, by simp, hB1.trans ?_⟩
        exact ⟨h3.os, h3.tape, h3.output, h3.size, fun i hi => h3.block i (Nat.lt_of_lt_of_le hi hB1.size) (by simp [Value.ownBlock])⟩
    · injection hv with e1 _ e3
      subst e1; subst e3
      have hh' : (W.alloc (.cells ys.toArray E)).heap[g]? = some (.cells cur E (0, 0)) := (Below.heap_alloc W _ g (Array.getElem?_eq_some_iff.1 hh).1).trans hh
      by_cases hroom : n + 1 ≤ c
      · have hfit : n * q + ys.length ≤ cur.size := by rw [hcs, hys, ← Nat.succ_mul]; exact Nat.mul_le_mul_right _ (by omega)
        have hst := run_append_room (P := P) (W.alloc (.cells ys.toArray E)) t o.type E i0 ht hi g n c cur hh' ⟨W.heap.size, 0, none⟩ 1 1 ys (by rw [hz1]; omega) hnews h1 hroom (by rw [hz1]; exact hfit)
        have hst2 := run_append_room (P := P) (W.alloc (.cells ys.toArray E)) t o.type E i0 ht hi g n c' cur hh' ⟨W.heap.size, 0, none⟩ 1 1 ys (by rw [hz1]; omega) hnews h1 (by omega) (by rw [hz1]; exact hfit)
        obtain ⟨v', w', hr, h2, h3, _, h5⟩ := run_append_own_at (P := P) (W.alloc (.cells ys.toArray E)) base t o.type E i0 z q bytes ht hi hz0 hz1 hz2 hzs hsz (.slice (some ⟨g, 0, none⟩) n c') n _ (hown.alloc _) ⟨W.heap.size, 0, none⟩ 1 1 ys (by omega) hnews h1 hm63 hl hbz
        rw [hr] at hst2
        injection hst2 with e1 e2
        rw [← e2] at hst
        rw [e1] at h2
        exact ⟨_, _, hst, ⟨_, c, c', rfl, hroom, hcc, h2⟩, .inl ⟨rfl, by simp [Value.ownBlock], Keeps.grown ((Keeps.refl _ W).alloc _) h3 (fun k hk => .inl hk)⟩⟩
      · have holds : ∀ j u, xs[j]? = some u → (W.alloc (.cells ys.toArray E)).cell? ((⟨g, 0, none⟩ : Addr).add j) = some u := fun j u hu => (hown.alloc _).cells (g := g) rfl j u hu
        obtain ⟨v', w', hr, h2, h3⟩ := run_append_arg_grows (P := P) (W.alloc (.cells ys.toArray E)) t o.type E i0 z q bytes ht hi hz0 hz1 hz2 hzs hsz ⟨g, 0, none⟩ n c xs hown.1 holds ⟨W.heap.size, 0, none⟩ 1 1 ys (by omega) hnews (by omega) hm63 hl
        obtain ⟨A2, c2, e2, hc2, _, hp2⟩ := own_slice h2
        obtain ⟨g2, rfl, hg2, hlt2, hob2⟩ := hp2 (by omega)
        subst e2
        refine ⟨_, _, hr, (RowG.of_own h2).lower (Nat.le_trans hbase hB1.size), .inr ⟨g2, rfl, Nat.le_trans hB1.size hg2, hB1.trans ?_⟩⟩
        exact ⟨h3.os, h3.tape, h3.output, h3.size, fun i hi => h3.block i (Nat.lt_of_lt_of_le hi hB1.size) (by simp)⟩
  obtain ⟨v', w', hr, h2, hcase⟩ := key
  refine wpList_plain hgd fun K hK => ?_
  unfold Oper.wp execOp
  simp only [ho, resolve, invoke, builtin, Sem.run_bind, Sem.run_pure, Result.andThen_ok, List.map_toArray, List.map_cons, List.map_nil, hs, hx, hr]
  exact hK _ _ (h v' w' h2 hcase)
end
end Go.Proofs.Ytadpgodmkodgdaa

namespace Go.Proofs.Ytadpgodmkodgdaa
open Go.RowKit
set_option linter.unusedSimpArgs false
set_option linter.unusedVariables false

/-- What Put hands back. -/
def PkPut (w : World) (kind : Int) (f t : List Int) (ps : List Piece) (e : Ending) (w' : World) : Prop :=
  (pkE kind ps ≠ 0 ∧ e = .returned (.tuple #[.slice none 0 0, .int .i64 (pkE kind ps)]) ∧ Below w.heap.size w w') ∨
  ∃ g L, pkE kind ps = 0 ∧ (pkB kind f t (pieces ps)).length = L ∧ e = .returned (.tuple #[.slice (some ⟨g, 0, none⟩) L L, .int .i64 0]) ∧ w.heap.size ≤ g ∧ Rd w' .u8 (some ⟨g, 0, none⟩) L (pkB kind f t (pieces ps)) ∧ Below w.heap.size w w'
/-- The same, told closer: the bytes' block is the call's own. -/
def PkPutO (w : World) (kind : Int) (f t : List Int) (ps : List Piece) (e : Ending) (w' : World) : Prop :=
  (pkE kind ps ≠ 0 ∧ e = .returned (.tuple #[.slice none 0 0, .int .i64 (pkE kind ps)]) ∧ Below w.heap.size w w') ∨
  ∃ g L, pkE kind ps = 0 ∧ (pkB kind f t (pieces ps)).length = L ∧ e = .returned (.tuple #[.slice (some ⟨g, 0, none⟩) L L, .int .i64 0]) ∧ w.heap.size ≤ g ∧ Rd w' .u8 (some ⟨g, 0, none⟩) L (pkB kind f t (pieces ps)) ∧ RowG 5 1 w.heap.size w' (.slice (some ⟨g, 0, none⟩) L L) L ((pkB kind f t (pieces ps)).map (Value.int .u8)) ∧ Below w.heap.size w w'

theorem slice_from_some (W : World) (g off n c k : Nat) (h : k ≤ n) (hc : n ≤ c) (hk : k < c) : (Instr.slice 49 (.slice (some ⟨g, off, none⟩) n c) (some (.int .i64 (k : Int))) none none).run Try.prog W = .ok (.slice (some ⟨g, off + k, none⟩) (n - k) (c - k)) W := by
  rw [run_slice_l W 49 _ n c (by kernel_rfl) .i64 (k : Int) (by omega) (by omega), show (sizeOf (Try.prog.elem 49)).run Try.prog W = .ok 1 W from by kernel_rfl]
  simp only [Result.andThen, sliced, Int.toNat_natCast]
  rw [if_neg (by omega)]
  have ha : (⟨g, off, none⟩ : Addr).add (k * 1) = ⟨g, off + k, none⟩ := by unfold Addr.add; split <;> simp_all
  simp only [Option.map_some, ha]
theorem pk0_cat (kind : Int) (f t l : List Int) : [1, kind] ++ be ((40 + l.length : Nat) : Int) 2 ++ ([0, 0, 0, 0] ++ (f ++ (t ++ l))) = pk0 kind f t l := by
  simp [pk0, be]
theorem splice_chk (cur : List Value) (b : List Int) (q : Int) (h : cur.take b.length = b.map (Value.int .u8)) (h6 : 6 ≤ b.length) (hl : b.length ≤ cur.length) (h0 : 0 ≤ q) (h1 : q ≤ 65535) : (splice cur 4 ((be q 2).map (Value.int .u8))).take b.length = (withChk b q).map (Value.int .u8) := by
  have e : be q 2 = [q / 256 % 256, q % 256] := by simp [be]
  rw [e, show q / 256 % 256 = q / 256 by omega]
  have hb : (withChk b q).length = b.length := by simp [withChk]
  apply List.ext_getElem?
  intro j
  rw [List.getElem?_take, List.getElem?_map]
  have hcur : ∀ j, j < b.length → cur[j]? = (b.map (Value.int .u8))[j]? := fun j hj => by rw [← h, List.getElem?_take, if_pos hj]
  by_cases hj : j < b.length
  · rw [if_pos hj]
    simp only [splice, List.map_cons, List.map_nil, List.length_cons, List.length_nil]
    rcases Nat.lt_or_ge j 4 with h4 | h4
    · rw [List.getElem?_append_left (by simp; omega), List.getElem?_take, if_pos h4, hcur j hj, List.getElem?_map]
      unfold withChk
      rw [List.getElem?_set_ne (by omega), List.getElem?_set_ne (by omega)]
    · rw [List.getElem?_append_right (by simp; omega), List.length_take, Nat.min_eq_left (by omega)]
      obtain rfl | rfl | h5 : j = 4 ∨ j = 5 ∨ 6 ≤ j := by omega
      · unfold withChk
        rw [List.getElem?_set_ne (by omega), List.getElem?_set_self hj]; rfl
      · unfold withChk
        rw [List.getElem?_set_self (by simp; omega)]; rfl
      · rw [List.getElem?_append_right (by simp; omega), List.getElem?_drop]
        simp only [List.length_cons, List.length_nil]
        rw [show 4 + (0 + 1 + 1) + (j - 4 - (0 + 1 + 1)) = j by omega, hcur j hj, List.getElem?_map]
        unfold withChk
        rw [List.getElem?_set_ne (by omega), List.getElem?_set_ne (by omega)]
  · rw [if_neg hj, List.getElem?_eq_none (by omega)]; rfl

set_option maxRecDepth 100000 in
set_option maxHeartbeats 4000000 in
theorem pkput_own (kind : Int) (f t : List Int) (ps : List Piece) (A : Option Addr) (n c : Nat) (w : World) (hps : Ps w A n ps) (hf : f.length = 16) (ht : t.length = 16) (hfb : isB f) (htb : isB t) (hk : 0 ≤ kind ∧ kind ≤ 255) :
    Calls Try.prog 41 #[.agg (pktC kind f t (.slice A n c)).toArray] w (PkPutO w kind f t ps) := by
  have hbox := Blk.new w 45 (pktC kind f t (.slice A n c))
  have c0 : (w.alloc (.cells (pktC kind f t (.slice A n c)).toArray 45)).cell? ⟨w.heap.size, 0, none⟩ = some (.int .u8 kind) := hbox.cell 0
  have c33 : (w.alloc (.cells (pktC kind f t (.slice A n c)).toArray 45)).cell? ⟨w.heap.size, 33, none⟩ = some (.slice A n c) := by
    rw [hbox.cell 33]
    simp only [pktC, List.getElem?_cons_succ]
    rw [List.getElem?_append_right (by simp [hf]), List.length_map, hf, List.getElem?_append_right (by simp [ht]), List.length_map, ht]
    rfl
  have hB0 := new_below w (.cells (pktC kind f t (.slice A n c)).toArray 45)
  have hps0 := hps.below hB0
  have hrf : Rd (w.alloc (.cells (pktC kind f t (.slice A n c)).toArray 45)) .u8 (some ⟨w.heap.size, 1, none⟩) 16 f := ⟨hf, by omega, bytes_wf hfb, fun _ => ⟨_, 1, rfl, hbox.lt, fun j hj => by
    rw [hbox.cell, Nat.add_comm, pktC, List.getElem?_cons_succ, List.getElem?_append_left (by simp [hf]; omega)]
    simp [show j < f.length by omega]⟩⟩
  have hrt : Rd (w.alloc (.cells (pktC kind f t (.slice A n c)).toArray 45)) .u8 (some ⟨w.heap.size, 17, none⟩) 16 t := ⟨ht, by omega, bytes_wf htb, fun _ => ⟨_, 17, rfl, hbox.lt, fun j hj => by
    rw [hbox.cell, show 17 + j = (16 + j) + 1 by omega, pktC, List.getElem?_cons_succ, List.getElem?_append_right (by simp [hf]), List.length_map, hf, List.getElem?_append_left (by simp [ht]; omega), show 16 + j - 16 = j by omega]
    simp [show j < t.length by omega]⟩⟩
  have hmay := pkmay_any kind (w.alloc (.cells (pktC kind f t (.slice A n c)).toArray 45)) hk.1
  have hpap := paput_any A n c ps _ hps0
  generalize hW : w.alloc (.cells (pktC kind f t (.slice A n c)).toArray 45) = w1 at *
  have HW := Lib.hid hW
  have HB0 := Lib.hid hB0
  have HPA := Lib.hid hpap
  have HRF := Lib.hid hrf
  have HRT := Lib.hid hrt
  obtain ⟨X, hX⟩ : ∃ X, pktC kind f t (.slice A n c) = X := ⟨_, rfl⟩
  rw [hX] at hW hbox ⊢
  clear hpap hrf hrt hps0 hB0 hX
  by_cases hm : 1 ≤ kind ∧ kind ≤ 8
  · rw [decide_eq_true hm] at hmay
    go_enter Try.func41, Try.ntmps41
    go_wp2_with (refine wpList_value (o := ⟨some 1, .box 45 _, _, _, _, _⟩) (v := .pointer (some ⟨w.heap.size, 0, none⟩)) (w' := w.alloc (.cells X.toArray 45)) rfl (by rfl) ?_; rw [hW])
    refine hmay.mono ?_; rintro e w2 ⟨rfl, rfl⟩
    have hEk : Hid (pkE kind ps = if putE ps = 0 then (if 2048 < 40 + (pieces ps).length then 3 else 0) else putE ps) := Lib.hid (by unfold pkE; rw [if_pos hm])
    have HX := Lib.hid hbox.lt
    go_wp2_with fail
    refine HPA.out.mono ?_
    rintro e w2 (⟨hne, rfl, hB2⟩ | ⟨A2, h00, rfl, hr2, hz2, -, hB2⟩)
    · have HE : Hid (pkE kind ps = putE ps) := Lib.hid (by rw [hEk.out, if_neg hne])
      have HNE : Hid (putE ps ≠ 0) := Lib.hid hne
      have HB2 := Lib.hid (HB0.out.trans (hB2.mono HB0.out.size))
      generalize putE ps = E at *
      clear hB2 hmay
      go_wp2_with fail
      go_ret2
      exact .inl ⟨by rw [HE.out]; exact HNE.out, by rw [HE.out]; rfl, HB2.out⟩
    · obtain ⟨L, hL⟩ : ∃ L, (pieces ps).length = L := ⟨_, rfl⟩
      rw [hL] at hr2 hz2 ⊢
      have hHL := Lib.hid hL
      have HB2 := Lib.hid (HB0.out.trans (hB2.mono HB0.out.size))
      have HEL : Hid (pkE kind ps = if 2048 < 40 + L then 3 else 0) := Lib.hid (by rw [hEk.out, if_pos h00, hL])
      have hLb := hr2.big
      have hw40 : IntKind.i64.wrap (40 + (L : Int)) = 40 + (L : Int) := IntWalk.i64_in _ (by omega)
      by_cases hbg : 2048 < 40 + L
      · have hbg' : (2048 : Int) < 40 + (L : Int) := by omega
        have HE : Hid (pkE kind ps = 3) := Lib.hid (by rw [HEL.out, if_pos hbg])
        clear hB2 hmay hr2 hz2
        go_wp2_with fail
        go_ret2
        exact .inl ⟨by rw [HE.out]; decide, by rw [HE.out]; rfl, HB2.out⟩
      · have hbg' : ¬ ((2048 : Int) < 40 + (L : Int)) := by omega
        have HE : Hid (pkE kind ps = 0) := Lib.hid (by rw [HEL.out, if_neg hbg])
        have c0' := (hB2.cell (p := ⟨w.heap.size, 0, none⟩) HX.out).trans c0
        have hwu : IntKind.u64.wrap (40 + (L : Int)) = 40 + (L : Int) := IntWalk.u64_in _ (by omega)
        have hB23 : Below w.heap.size w (w2.alloc (.cells #[.int .u8 1, .int .u8 kind] 5)) := HB2.out.alloc HB2.out.size _
        have hput := put2_any (some ⟨w2.heap.size, 0, none⟩) 2 2 [1, kind] (40 + (L : Int)) (w2.alloc (.cells #[.int .u8 1, .int .u8 kind] 5)) (rd_lit w2 [1, kind] 2 (by intro x hx; simp at hx; omega) rfl (by omega)) (Nat.le_refl _) (by omega) (by omega)
        have HPUT := Lib.hid hput
        have HB23 := Lib.hid hB23
        have HR2 := Lib.hid (hr2.below (new_below w2 (.cells #[.int .u8 1, .int .u8 kind] 5)))
        have HRF2 := Lib.hid ((HRF.out.below hB2).below (new_below w2 (.cells #[.int .u8 1, .int .u8 kind] 5)))
        have HRT2 := Lib.hid ((HRT.out.below hB2).below (new_below w2 (.cells #[.int .u8 1, .int .u8 kind] 5)))
        have HZ2 := Lib.hid hz2
        clear hput hB23 hr2 hz2 hB2 hmay c0 c33
        go_wp2_with fail
        refine HPUT.out.mono ?_; rintro e w4 ⟨g3, hg3, rfl, hk3, hB4⟩
        have HB4 := Lib.hid (HB23.out.trans (hB4.mono HB23.out.size))
        have hR4 := HR2.out.below hB4
        have hRF4 := HRF2.out.below hB4
        have hRT4 := HRT2.out.below hB4
        have hk3' : Blk w4 g3 5 (([1, kind] ++ be (40 + (L : Int)) 2).map (Value.int .u8)) := hk3
        have hkb : ∀ x ∈ [1, kind] ++ be (40 + (L : Int)) 2, 0 ≤ x ∧ x ≤ 255 := by
          intro x hx
          rcases List.mem_append.1 hx with hx | hx
          · simp at hx; omega
          · exact be_byte _ _ x hx
        have hR3 : Rd w4 .u8 (some ⟨g3, 0, none⟩) 4 ([1, kind] ++ be (40 + (L : Int)) 2) := rd_of_blk hk3' hkb (by simp [be_length]) (by omega)
        have hmk : ∀ W : World, (Instr.makeSlice 49 (.int .i64 4) (.int .i64 4)).run Try.prog W = .ok (.slice (some ⟨W.heap.size, 0, none⟩) 4 4) (W.alloc (.cells #[.int .u8 0, .int .u8 0, .int .u8 0, .int .u8 0] 5)) := fun W => by
          have := run_make_row' (P := Try.prog) 49 5 (.int .u8 0) 1 Try.underlying49 (by kernel_rfl) rfl .i64 .i64 4 (by omega) (by omega) W
          rw [made_rep] at this
          exact this
        obtain ⟨parts, hparts⟩ : ∃ parts : List Part, parts = [⟨some ⟨g3, 0, none⟩, 4, 4, [1, kind] ++ be (40 + (L : Int)) 2⟩, ⟨some ⟨w4.heap.size, 0, none⟩, 4, 4, [0, 0, 0, 0]⟩, ⟨some ⟨w.heap.size, 1, none⟩, 16, 16, f⟩, ⟨some ⟨w.heap.size, 17, none⟩, 16, 16, t⟩, ⟨A2, L, L, pieces ps⟩] := ⟨_, rfl⟩
        have hBd : Below w4.heap.size w4 (w4.drew.alloc (.cells #[.int .u8 0, .int .u8 0, .int .u8 0, .int .u8 0] 5)) := (drew_below w4).alloc (Nat.le_refl _) _
        have hzk : Blk (w4.drew.alloc (.cells #[.int .u8 0, .int .u8 0, .int .u8 0, .int .u8 0] 5)) w4.heap.size 5 (([0, 0, 0, 0] : List Int).map (Value.int .u8)) := Blk.new w4.drew 5 _
        have hSS : ((w4.drew.alloc (.cells #[.int .u8 0, .int .u8 0, .int .u8 0, .int .u8 0] 5)).alloc (.cells #[.slice (some ⟨g3, 0, none⟩) 4 4, .slice (some ⟨w4.heap.size, 0, none⟩) 4 4, .slice (some ⟨w.heap.size, 1, none⟩) 16 16, .slice (some ⟨w.heap.size, 17, none⟩) 16 16, .slice A2 L L] 49)).heap.size = w4.heap.size + 1 + 1 := by simp
        have hSk : Blk ((w4.drew.alloc (.cells #[.int .u8 0, .int .u8 0, .int .u8 0, .int .u8 0] 5)).alloc (.cells #[.slice (some ⟨g3, 0, none⟩) 4 4, .slice (some ⟨w4.heap.size, 0, none⟩) 4 4, .slice (some ⟨w.heap.size, 1, none⟩) 16 16, .slice (some ⟨w.heap.size, 17, none⟩) 16 16, .slice A2 L L] 49)) (w4.heap.size + 1) 49 [.slice (some ⟨g3, 0, none⟩) 4 4, .slice (some ⟨w4.heap.size, 0, none⟩) 4 4, .slice (some ⟨w.heap.size, 1, none⟩) 16 16, .slice (some ⟨w.heap.size, 17, none⟩) 16 16, .slice A2 L L] := by
          have := Blk.new (w4.drew.alloc (.cells #[.int .u8 0, .int .u8 0, .int .u8 0, .int .u8 0] 5)) 49 [.slice (some ⟨g3, 0, none⟩) 4 4, .slice (some ⟨w4.heap.size, 0, none⟩) 4 4, .slice (some ⟨w.heap.size, 1, none⟩) 16 16, .slice (some ⟨w.heap.size, 17, none⟩) 16 16, .slice A2 L L]
          simpa using this
        have hB6 : Below w4.heap.size w4 ((w4.drew.alloc (.cells #[.int .u8 0, .int .u8 0, .int .u8 0, .int .u8 0] 5)).alloc (.cells #[.slice (some ⟨g3, 0, none⟩) 4 4, .slice (some ⟨w4.heap.size, 0, none⟩) 4 4, .slice (some ⟨w.heap.size, 1, none⟩) 16 16, .slice (some ⟨w.heap.size, 17, none⟩) 16 16, .slice A2 L L] 49)) := hBd.alloc (by simp) _
        have hpa : PartsAt ((w4.drew.alloc (.cells #[.int .u8 0, .int .u8 0, .int .u8 0, .int .u8 0] 5)).alloc (.cells #[.slice (some ⟨g3, 0, none⟩) 4 4, .slice (some ⟨w4.heap.size, 0, none⟩) 4 4, .slice (some ⟨w.heap.size, 1, none⟩) 16 16, .slice (some ⟨w.heap.size, 17, none⟩) 16 16, .slice A2 L L] 49)) (w4.heap.size + 1) parts := by
          intro j p hj
          subst hparts
          rcases j with _ | _ | _ | _ | _ | j <;> simp only [List.getElem?_cons_zero, List.getElem?_cons_succ, List.getElem?_nil, Option.some.injEq, reduceCtorEq] at hj
          · subst hj; exact ⟨hSk.cell 0, hR3.below hB6, Nat.le_refl _, fun e => by cases e⟩
          · subst hj; exact ⟨hSk.cell 1, rd_of_blk (n := 4) (xs := [0, 0, 0, 0]) (hzk.alloc _) (by intro x hx; simp at hx; omega) rfl (by omega), Nat.le_refl _, fun e => by cases e⟩
          · subst hj; exact ⟨hSk.cell 2, hRF4.below hB6, Nat.le_refl _, fun e => by cases e⟩
          · subst hj; exact ⟨hSk.cell 3, hRT4.below hB6, Nat.le_refl _, fun e => by cases e⟩
          · subst hj; exact ⟨hSk.cell 4, hR4.below hB6, Nat.le_refl _, HZ2.out⟩
        have htot : total parts = 40 + L := by subst hparts; simp [total]; omega
        have hcat : cat parts = pk0 kind f t (pieces ps) := by
          subst hparts
          rw [← pk0_cat, hHL.out]
          simp [cat]
        have hcc := concat_any (w4.heap.size + 1) 5 parts _ hpa hSk.lt (by subst hparts; rfl) (by rw [htot]; omega) (by rw [htot]; omega) (by omega)
        rw [htot, hcat] at hcc
        have HCC := Lib.hid hcc
        have HB6 := Lib.hid (HB4.out.trans (hB6.mono HB4.out.size))
        have HHP := Lib.hid hps
        clear hcc hpa htot hcat hSk hSS hzk hBd hparts hR3 hkb hk3' hk3 hR4 hRF4 hRT4 hB6 hB4 hps
        go_wp2_with fail
        go_region_held3 (fun _ => True) (trivial)
          (first
            | (go_at_call 52
               refine HCC.out.mono ?_
               rintro e w7 ⟨g5, cap5, rfl, hc5, ho5, hg5, hB7⟩
               have HC5 := Lib.hid hc5
               have HO5 := Lib.hid ho5
               have HG5 := Lib.hid hg5
               have HB7 := Lib.hid (HB6.out.trans (hB7.mono HB6.out.size))
               clear hc5 ho5 hg5 hB7))
        obtain ⟨N, hN⟩ : ∃ N, 40 + L = N := ⟨_, rfl⟩
        rw [hN] at HC5 HO5 ⊢
        have HN := Lib.hid hN
        have hpb : isB (pieces ps) := pieces_byte _ (ps_ok HHP.out)
        have h0b := pk0_byte (kind := kind) hm hfb htb hpb
        have h0l : (pk0 kind f t (pieces ps)).length = N := by rw [pk0_length hf ht, hHL.out, hN]
        have hqr := chk_range h0b
        have hBL : Hid (pkB kind f t (pieces ps) = withChk (pk0 kind f t (pieces ps)) (chk (pk0 kind f t (pieces ps)))) := Lib.hid rfl
        have hBy : isB (pkB kind f t (pieces ps)) := pkB_byte hm hfb htb hpb
        have hBlen : (pkB kind f t (pieces ps)).length = N := by rw [pkB_length hf ht, hHL.out, hN]
        have hNb : N ≤ 2048 := by omega
        have hN40 : 40 ≤ N := by omega
        have hBd7 : Below w.heap.size w w7.drew := HB7.out.trans ((drew_below w7).mono HB7.out.size)
        rcases HO5.out.2 with ⟨e, _⟩ | ⟨g', cap', cur, e, hgb, hh, hnc, hmx, hs, htk⟩
        · injection e with e _ _; cases e
        · injection e with e1 _ e2
          injection e1 with e1
          injection e1 with e1
          subst e1 e2
          have hk7 : Blk w7.drew g5 5 cur.toList := hh
          have htk' : cur.toList.take N = (pk0 kind f t (pieces ps)).map (Value.int .u8) := by simpa using htk
          have hcl : cur.toList.length = cap5 := by rw [Array.length_toList, hs, Nat.mul_one]
          have hrd7 : Rd w7.drew .u8 (some ⟨g5, 0, none⟩) N (pk0 kind f t (pieces ps)) := rd_of_in hk7 htk' h0b h0l (by omega)
          have hch := check_any (some ⟨g5, 0, none⟩) N cap5 _ w7.drew hrd7 HC5.out
          have hspl := splice_chk cur.toList (pk0 kind f t (pieces ps)) (chk (pk0 kind f t (pieces ps))) (by rw [h0l]; exact htk') (by omega) (by rw [h0l, hcl]; exact HC5.out) hqr.1 hqr.2
          rw [h0l, ← hBL.out] at hspl
          obtain ⟨q, hq⟩ : ∃ q, chk (pk0 kind f t (pieces ps)) = q := ⟨_, rfl⟩
          rw [hq] at hch hspl hqr
          have hwq : IntKind.u64.wrap q = q := IntWalk.u64_in _ (by omega)
          have hput2 := put2_any none 0 0 [] q w7.drew (rd_nil _ _) (Nat.le_refl _) hqr.1 (by omega)
          have hs4' := fun W => slice_from_some W g5 0 N cap5 4 (by omega) HC5.out (by have := HC5.out; omega)
          have hs4 : ∀ W : World, (Instr.slice 49 (.slice (some ⟨g5, 0, none⟩) N cap5) (some (.int .i64 4)) none none).run Try.prog W = .ok (.slice (some ⟨g5, 4, none⟩) (N - 4) (cap5 - 4)) W := hs4'
          have HCH := Lib.hid hch
          have HPUT2 := Lib.hid hput2
          have HSPL := Lib.hid hspl
          have HK7 := Lib.hid hk7
          have HBD7 := Lib.hid hBd7
          have HBY := Lib.hid hBy
          have HBLEN := Lib.hid hBlen
          have HCL := Lib.hid hcl
          have HMX := Lib.hid hmx
          have HGB := Lib.hid (Nat.le_trans HB6.out.size HG5.out)
          have hb4 : ((be q 2).map (Value.int .u8)).length = Nat.min 2 (N - 4) := by rw [List.length_map, be_length]; exact (Nat.min_eq_left (by omega)).symm
          have HB44 := Lib.hid hb4
          have hfit : 4 + ((be q 2).map (Value.int .u8)).length ≤ cur.toList.length := by rw [List.length_map, be_length, hcl]; have := HC5.out; omega
          have HFIT := Lib.hid hfit
          clear hch hput2 hspl hk7 hBd7 hBy hBlen hcl hb4 hfit hq hs4' hrd7 htk' htk hs hmx hnc hh hgb hpb h0b h0l hN HB23 HPUT
          go_wp2_with fail
          go_region_held3 (fun _ => True) (trivial)
            (first
              | (refine step_copy rfl _ _ 49 49 rfl 5 Try.underlying49 size_u8 (some ⟨g5, 4, none⟩) (some ⟨g8, 0, none⟩) (N - 4) (cap5 - 4) 2 2 (by simp [Act.eval, Act.put]) (by simp [Act.eval, Act.put]) g5 4 cur.toList 5 HK8.out ((be q 2).map (Value.int .u8)) HB44.out (fun h0 => ⟨rfl, _, rfl, HSRC8.out⟩) HFIT.out (one_u8 _) ?_
                 intro w9 hb9 hk9
                 have HK9 := Lib.hid hk9
                 clear hk9)
              | (go_at_call 53
                 refine HCH.out.mono ?_
                 rintro e w8 ⟨rfl, rfl⟩)
              | (go_at_call 33
                 refine HPUT2.out.mono ?_
                 rintro e w8 ⟨g8, hg8, rfl, hk8, hB8⟩
                 have HK8 := Lib.hid (HK7.out.below hB8 HK7.out.lt)
                 have HSRC8 : Hid (∀ j v, ((be q 2).map (Value.int .u8))[j]? = some v → w8.cell? ((⟨g8, 0, none⟩ : Addr).add j) = some v) := Lib.hid (fun j v hj => by
                   have ha : (⟨g8, 0, none⟩ : Addr).add j = ⟨g8, j, none⟩ := by unfold Addr.add; split <;> simp_all
                   rw [ha]; exact (hk8.cell j).trans (by simpa using hj))
                 have HB8 := Lib.hid (HBD7.out.trans (hB8.mono HBD7.out.size))
                 clear hg8 hk8 hB8))
          have HB9 := Lib.hid (below_keeps HB8.out HK9.out (Nat.le_refl _) (fun i hi => by subst hi; exact HGB.out))
          have hclip := clip_all (some ⟨g5, 0, none⟩) N cap5 w9 HC5.out
          have hrd9 := rd_of_in hb9.out HSPL.out HBY.out HBLEN.out (by omega)
          have HRD9 := Lib.hid hrd9
          clear hrd9
          go_wp2_with fail
          refine hclip.mono ?_; rintro e w10 ⟨rfl, rfl⟩
          go_wp2_with fail
          go_ret2
          refine .inr ⟨g5, N, HE.out, HBLEN.out, rfl, HGB.out, HRD9.out, ⟨some ⟨g5, 0, none⟩, N, cap5, rfl, Nat.le_refl _, HC5.out, by simp [HBLEN.out], .inr ⟨g5, cap5, _, rfl, HGB.out, hb9.out, HC5.out, HMX.out, ?_, ?_⟩⟩, HB9.out⟩
          · rw [List.size_toArray, Nat.mul_one]
            have := HCL.out
            have := HFIT.out
            simp only [splice, List.length_append, List.length_take, List.length_drop]
            omega
          · rw [Nat.mul_one]
            exact HSPL.out
  · have hE : Hid (pkE kind ps = 1) := Lib.hid (by unfold pkE; rw [if_neg hm])
    rw [decide_eq_false hm] at hmay
    go_enter Try.func41, Try.ntmps41
    go_wp2_with (refine wpList_value (o := ⟨some 1, .box 45 _, _, _, _, _⟩) (v := .pointer (some ⟨w.heap.size, 0, none⟩)) (w' := w.alloc (.cells X.toArray 45)) rfl (by rfl) ?_; rw [hW])
    refine hmay.mono ?_; rintro e w2 ⟨rfl, rfl⟩
    go_wp2_with fail
    go_ret2
    exact .inl ⟨by rw [hE.out]; decide, by rw [hE.out]; rfl, HB0.out⟩
theorem pkput_any (kind : Int) (f t : List Int) (ps : List Piece) (A : Option Addr) (n c : Nat) (w : World) (hps : Ps w A n ps) (hf : f.length = 16) (ht : t.length = 16) (hfb : isB f) (htb : isB t) (hk : 0 ≤ kind ∧ kind ≤ 255) :
    Calls Try.prog 41 #[.agg (pktC kind f t (.slice A n c)).toArray] w (PkPut w kind f t ps) :=
  (pkput_own kind f t ps A n c w hps hf ht hfb htb hk).mono fun e w' h => by
    rcases h with h | ⟨g, L, h1, h2, h3, h4, h5, _, h6⟩
    · exact .inl h
    · exact .inr ⟨g, L, h1, h2, h3, h4, h5, h6⟩
end Go.Proofs.Ytadpgodmkodgdaa
