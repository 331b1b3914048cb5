/- Pieces of the call's own: their row, and each body's row, all in blocks of their own; Pieces' headers: pieces laid down one behind the other, each body in a block of its own; what holds of them while they are moved about; copies of elements of many cells; append where there is room. -/
import Derived.Test.YtadpgodmkodgdaaXRGuidesRoom24
import Derived.Test.YtadpgodmkodgdaaXRGuidesRoom18
import Derived.Test.YtadpgodmkodgdaaXRGuidesRoom4
import Derived.Laws.CopyRow
namespace Go.Proofs.Ytadpgodmkodgdaa
open Go.RowKit
set_option linter.unusedSimpArgs false
set_option linter.unusedVariables false

structure PsOwn (base : Nat) (w : World) (v : Value) (ps : List Piece) (cells : List Value) : Prop where
  row : RowG 69 2 base w v ps.length cells
  body : ∀ (j : Nat) (t : Int) (body : List Int), ps[j]? = some (t, body) → ∃ B c, cells[j * 2]? = some (.int .u16 t) ∧ cells[j * 2 + 1]? = some (.slice B body.length c) ∧ RowG 5 1 base w (.slice B body.length c) body.length (body.map (Value.int .u8))
  unlike : ∀ (i j g n c n' c' : Nat), i ≠ j → cells[i * 2 + 1]? = some (.slice (some ⟨g, 0, none⟩) n c) → cells[j * 2 + 1]? ≠ some (.slice (some ⟨g, 0, none⟩) n' c')
section
variable {base : Nat} {w w' : World} {v : Value} {ps : List Piece} {cells : List Value}
theorem PsOwn.keep {M : Nat → Prop} (h : PsOwn base w v ps cells) (hk : Keeps M w w') (hM : ∀ k cur, base ≤ k → (w.heap[k]? = some (.cells cur 5 (0, 0)) ∨ w.heap[k]? = some (.cells cur 69 (0, 0))) → ¬ M k) : PsOwn base w' v ps cells :=
  ⟨h.row.keep hk (fun k hk2 => by obtain ⟨h1, _, cur, h2⟩ := h.row.ty hk2; exact hM k cur h1 (.inr h2)), fun j t body hj => by
    obtain ⟨B, c, h1, h2, h3⟩ := h.body j t body hj
    exact ⟨B, c, h1, h2, h3.keep hk (fun k hk2 => by obtain ⟨h1, _, cur, h2⟩ := h3.ty hk2; exact hM k cur h1 (.inl h2))⟩, h.unlike⟩
theorem PsOwn.below (h : PsOwn base w v ps cells) (hB : Below w.heap.size w w') : PsOwn base w' v ps cells := h.keep (Keeps.of_below (M := fun _ => False) hB) (fun _ _ _ _ h => h)
theorem PsOwn.keepLow {M : Nat → Prop} (h : PsOwn base w v ps cells) (hk : Keeps M w w') (hM : ∀ i, M i → i < base) : PsOwn base w' v ps cells := h.keep hk (fun k _ hb _ hm => by have := hM k hm; omega)
theorem PsOwn.keepTy {M : Nat → Prop} {T : TypeId} {base' : Nat} (h : PsOwn base w v ps cells) (hk : Keeps M w w') (hM : ∀ i, M i → ByTy base' T w i) (h1 : 5 ≠ T) (h2 : 69 ≠ T) : PsOwn base w' v ps cells := h.keep hk (fun k cur _ ht hm => by
  rcases hM k hm with ⟨_, cur2, h3⟩ | h3
  · rcases ht with ht | ht
    · exact h1 (ty_one ht h3)
    · exact h2 (ty_one ht h3)
  · have : k < w.heap.size := by rcases ht with ht | ht <;> exact (Array.getElem?_eq_some_iff.1 ht).1
    omega)
theorem PsOwn.lower {base' : Nat} (h : PsOwn base w v ps cells) (hb : base' ≤ base) : PsOwn base' w v ps cells :=
  ⟨h.row.lower hb, fun j t body hj => by
    obtain ⟨B, c, h1, h2, h3⟩ := h.body j t body hj
    exact ⟨B, c, h1, h2, h3.lower hb⟩, h.unlike⟩
theorem RowG.none_cap {E : TypeId} {q base : Nat} {w : World} {n c : Nat} {cs : List Value} (h : RowG E q base w (.slice none n c) n cs) : n = 0 ∧ c = 0 := by
  obtain ⟨A, c1, c', e, h1, h2, h3⟩ := h
  injection e with e1 _ e2
  subst e1; subst e2
  rcases h3.2 with ⟨h4, h5⟩ | ⟨g, cap, cur, h4, _⟩
  · injection h4 with _ _ h4
    omega
  · injection h4 with h4 _ _
    cases h4
theorem RowG.rd {base : Nat} {w : World} {A : Option Addr} {n c : Nat} {xs : List Int} (h : RowG 5 1 base w (.slice A n c) n (xs.map (Value.int .u8))) (hb : ∀ x ∈ xs, 0 ≤ x ∧ x ≤ 255) (hn : n ≤ 140737488351232) : Rd w .u8 A n xs := by
  have hl : xs.length = n := by have := h.len; simpa using this
  refine ⟨hl, hn, bytes_wf hb, fun h0 => ?_⟩
  obtain ⟨g, c1, e, _, _, hg, hc, _⟩ := h.at_ h0
  injection e with e _ _
  subst e
  refine ⟨g, 0, rfl, hg, fun j hj => ?_⟩
  rw [Nat.zero_add]
  exact hc j _ (by simp [show j < xs.length by omega])
theorem RowG.room {E : TypeId} {q base : Nat} {w : World} {A : Option Addr} {n c : Nat} {cs : List Value} (h : RowG E q base w (.slice A n c) n cs) : n ≤ c := by
  obtain ⟨A1, c1, e, h1⟩ := h.slice
  injection e with _ _ e
  omega
theorem PsOwn.asPs {A : Option Addr} {n c : Nat} (h : PsOwn base w (.slice A n c) ps cells) (hn : ps.length = n) (hbig : n ≤ 4398046510976) (hok : ∀ p ∈ ps, okPiece p) (hlen : ∀ p ∈ ps, p.2.length ≤ 140737488351232) : Ps w A n ps := by
  refine ⟨hn, hbig, fun h0 => ?_⟩
  obtain ⟨g, c1, e, _, _, hg, hc, _⟩ := h.row.at_ (by omega)
  injection e with e _ _
  subst e
  refine ⟨g, 0, rfl, hg, fun j hj => ?_⟩
  have hj' : j < ps.length := by omega
  obtain ⟨p, hp⟩ : ∃ p, ps[j] = p := ⟨_, rfl⟩
  obtain ⟨t, body⟩ := p
  have hjj : ps[j]? = some (t, body) := by rw [List.getElem?_eq_getElem hj', hp]
  have hm : (t, body) ∈ ps := List.mem_of_getElem? hjj
  obtain ⟨B, cb, h1, h2, h3⟩ := h.body j t body hjj
  have hk := hok _ hm
  refine ⟨t, body, B, body.length, cb, hjj, ⟨hk.1, hk.2.1⟩, by rw [Nat.zero_add]; exact hc _ _ h1, by rw [Nat.zero_add]; exact hc _ _ h2, h3.rd hk.2.2 (hlen _ hm), h3.room, fun e => ?_⟩
  subst e
  exact h3.none_cap.2
end
end Go.Proofs.Ytadpgodmkodgdaa

namespace Go.Proofs.Ytadpgodmkodgdaa
open Go.RowKit
set_option linter.unusedSimpArgs false
set_option linter.unusedVariables false

/-- A piece, and where its body lies. -/
structure Hd where
  p : Piece
  B : Option Addr
  c : Nat
def hcell (h : Hd) : List Value := [.int .u16 h.p.1, .slice h.B h.p.2.length h.c]
def hcells (hs : List Hd) : List Value := hs.flatMap hcell
theorem hcells_nil : hcells [] = [] := rfl
theorem hcells_cons (h : Hd) (hs : List Hd) : hcells (h :: hs) = hcell h ++ hcells hs := rfl
theorem hcells_append (hs ks : List Hd) : hcells (hs ++ ks) = hcells hs ++ hcells ks := by simp [hcells]
theorem hcells_length (hs : List Hd) : (hcells hs).length = hs.length * 2 := by
  induction hs with
  | nil => rfl
  | cons h hs ih => rw [hcells_cons, List.length_append, ih, List.length_cons]; simp [hcell]; omega
theorem hcells_take (hs : List Hd) (k : Nat) : hcells (hs.take k) = (hcells hs).take (k * 2) := by
  induction hs generalizing k with
  | nil => simp [hcells]
  | cons h hs ih =>
    cases k with
    | zero => simp [hcells]
    | succ k =>
      rw [List.take_succ_cons, hcells_cons, hcells_cons, ih, List.take_append, show (k + 1) * 2 - (hcell h).length = k * 2 by (have : (hcell h).length = 2 := rfl); omega, List.take_of_length_le (show (hcell h).length ≤ (k + 1) * 2 by (have : (hcell h).length = 2 := rfl); omega)]
theorem hcells_drop (hs : List Hd) (k : Nat) : hcells (hs.drop k) = (hcells hs).drop (k * 2) := by
  induction hs generalizing k with
  | nil => simp [hcells]
  | cons h hs ih =>
    cases k with
    | zero => simp [hcells]
    | succ k =>
      rw [List.drop_succ_cons, hcells_cons, ih, List.drop_append, show (k + 1) * 2 - (hcell h).length = k * 2 by (have : (hcell h).length = 2 := rfl); omega, List.drop_of_length_le (show (hcell h).length ≤ (k + 1) * 2 by (have : (hcell h).length = 2 := rfl); omega), List.nil_append]
theorem hcells_at {hs : List Hd} {j : Nat} {h : Hd} (hj : hs[j]? = some h) : (hcells hs)[j * 2]? = some (.int .u16 h.p.1) ∧ (hcells hs)[j * 2 + 1]? = some (.slice h.B h.p.2.length h.c) := by
  obtain ⟨hl, he⟩ := List.getElem?_eq_some_iff.1 hj
  have e : hcells (hs.drop j) = hcell h ++ hcells (hs.drop (j + 1)) := by rw [List.drop_eq_getElem_cons hl, he, hcells_cons]
  rw [hcells_drop] at e
  have e0 := congrArg (·[0]?) e
  have e1 := congrArg (·[1]?) e
  simp only [List.getElem?_drop, Nat.add_zero] at e0 e1
  exact ⟨by rw [e0]; rfl, by rw [e1]; rfl⟩
theorem hcells_one {hs : List Hd} : ∀ u ∈ hcells hs, u.oneCell' = true := by
  intro u hu
  simp only [hcells, List.mem_flatMap, hcell] at hu
  obtain ⟨h, _, hu⟩ := hu
  simp only [List.mem_cons, List.not_mem_nil, or_false] at hu
  rcases hu with rfl | rfl <;> rfl

/-- Two pieces whose bodies share no block. -/
def Ap (a b : Hd) : Prop := ∀ g, a.B = some ⟨g, 0, none⟩ → b.B ≠ some ⟨g, 0, none⟩
theorem Ap.symm {a b : Hd} (h : Ap a b) : Ap b a := fun g h1 h2 => h g h2 h1
/-- The bodies are the call's own, each in a block of its own. -/
structure HdsIn (base : Nat) (w : World) (hs : List Hd) : Prop where
  row : ∀ h ∈ hs, RowG 5 1 base w (.slice h.B h.p.2.length h.c) h.p.2.length (h.p.2.map (Value.int .u8))
  apart : hs.Pairwise Ap
section
variable {base : Nat} {w w' : World} {hs : List Hd}
theorem HdsIn.nil : HdsIn base w [] := ⟨fun h hh => by simp at hh, List.Pairwise.nil⟩
theorem HdsIn.keep {M : Nat → Prop} (h : HdsIn base w hs) (hk : Keeps M w w') (hM : ∀ k cur, base ≤ k → w.heap[k]? = some (.cells cur 5 (0, 0)) → ¬ M k) : HdsIn base w' hs :=
  ⟨fun x hx => (h.row x hx).keep hk (fun k hk2 => by obtain ⟨h1, _, cur, h2⟩ := (h.row x hx).ty hk2; exact hM k cur h1 h2), h.apart⟩
theorem HdsIn.below (h : HdsIn base w hs) (hB : Below w.heap.size w w') : HdsIn base w' hs := h.keep (Keeps.of_below (M := fun _ => False) hB) (fun _ _ _ _ h => h)
/-- What is written into a block of pieces leaves the bodies. -/
theorem HdsIn.keepP {g : Nat} {cs : List Value} (h : HdsIn base w hs) (hk : Keeps (· = g) w w') (hg : Blk w g 69 cs) : HdsIn base w' hs := h.keep hk (fun k cur _ hc e => by
  subst e
  unfold Blk at hg
  exact absurd (ty_one hc hg) (by decide))
theorem HdsIn.lower {base' : Nat} (h : HdsIn base w hs) (hb : base' ≤ base) : HdsIn base' w hs := ⟨fun x hx => (h.row x hx).lower hb, h.apart⟩
theorem HdsIn.sub {ks : List Hd} (h : HdsIn base w hs) (hs' : ks.Sublist hs) : HdsIn base w ks := ⟨fun x hx => h.row x (hs'.subset hx), h.apart.sublist hs'⟩
theorem HdsIn.mid {l r : List Hd} {x : Hd} (h : HdsIn base w (l ++ r)) (hx : RowG 5 1 base w (.slice x.B x.p.2.length x.c) x.p.2.length (x.p.2.map (Value.int .u8))) (ha : ∀ y ∈ l ++ r, Ap x y) : HdsIn base w (l ++ x :: r) := by
  have hp := List.pairwise_append.1 h.apart
  refine ⟨fun y hy => ?_, List.pairwise_append.2 ⟨hp.1, List.pairwise_cons.2 ⟨fun y hy => ha y (by simp [hy]), hp.2.1⟩, fun a ha' b hb => ?_⟩⟩
  · simp only [List.mem_append, List.mem_cons] at hy
    rcases hy with hy | rfl | hy
    · exact h.row y (by simp [hy])
    · exact hx
    · exact h.row y (by simp [hy])
  · rcases List.mem_cons.1 hb with rfl | hb
    · exact (ha a (by simp [ha'])).symm
    · exact hp.2.2 a ha' b hb
theorem HdsIn.blk (h : HdsIn base w hs) {x : Hd} (hx : x ∈ hs) {g : Nat} (hg : x.B = some ⟨g, 0, none⟩) : base ≤ g ∧ g < w.heap.size := by
  obtain ⟨h1, h2, _⟩ := (h.row x hx).ty (k := g) (by rw [hg]; rfl)
  exact ⟨h1, h2⟩
theorem HdsIn.psOwn {v : Value} (h : HdsIn base w hs) (hr : RowG 69 2 base w v hs.length (hcells hs)) : PsOwn base w v (hs.map (·.p)) (hcells hs) := by
  have at_ : ∀ i g n c, (hcells hs)[i * 2 + 1]? = some (.slice (some ⟨g, 0, none⟩) n c) → ∃ hi : i < hs.length, hs[i].B = some ⟨g, 0, none⟩ := fun i g n c hi => by
    have hl := (List.getElem?_eq_some_iff.1 hi).1
    rw [hcells_length] at hl
    have hi' : i < hs.length := by omega
    refine ⟨hi', ?_⟩
    have := (hcells_at (List.getElem?_eq_getElem hi')).2
    rw [hi] at this
    injection this with this
    injection this with this _ _
    exact this.symm
  refine ⟨by simpa using hr, fun j t body hj => ?_, fun i j g n c n' c' hne h1 h2 => ?_⟩
  · rw [List.getElem?_map, Option.map_eq_some_iff] at hj
    obtain ⟨x, hx, hp⟩ := hj
    obtain ⟨e1, e2⟩ := hcells_at hx
    have hr := h.row x (List.mem_of_getElem? hx)
    rw [hp] at e1 e2 hr
    exact ⟨_, _, e1, e2, hr⟩
  · obtain ⟨hi, ei⟩ := at_ i g n c h1
    obtain ⟨hj, ej⟩ := at_ j g n' c' h2
    have hp := List.pairwise_iff_getElem.1 h.apart
    rcases Nat.lt_or_gt_of_ne hne with hlt | hlt
    · exact hp i j hi hj hlt g ei ej
    · exact hp j i hj hi hlt g ej ei
end
/-- A block that is known whole, as a row. -/
theorem RowG.of_blk {E : TypeId} {q base : Nat} {w : World} {g n c cap : Nat} {cur cs : List Value} (hk : Blk w g E cur) (hb : base ≤ g) (hcur : cur.length = cap * q) (hn : n ≤ c) (hc : c ≤ cap) (hm : cap ≤ maxLen) (hcs : cs.length = n * q) (ht : cur.take (n * q) = cs) :
    RowG E q base w (.slice (some ⟨g, 0, none⟩) n c) n cs :=
  ⟨_, c, cap, rfl, hn, hc, hcs, .inr ⟨g, cap, cur.toArray, rfl, hb, hk, by omega, hm, by simpa using hcur, by simpa using ht⟩⟩

section
variable {P : Program}
/-- What the builtin copy does with elements of many cells: the cells cs, laid over a block that is known whole. -/
theorem run_copy_blkN (w : World) (dT sT ty elem : TypeId) (q : Nat) (hu : P.underlying dT = some (.slice elem)) (hsz : (P.info? elem).map (·.size) = some q)
    (sp : Addr) (m dLen dCap sLen sCap : Nat) (g off : Nat) (cur : List Value) (t : TypeId) (hg : Blk w g t cur) (cs : List Value) (hm : m = Nat.min sLen dLen) (hn : cs.length = m * q)
    (hsrc : ∀ j v, cs[j]? = some v → w.cell? (sp.add j) = some v)
    (hfit : off + cs.length ≤ cur.length) (h1 : ∀ v ∈ cs, v.oneCell' = true) :
    ∃ w', (Builtin.copy_ #[dT, sT] ty #[.slice (some ⟨g, off, none⟩) dLen dCap, .slice (some sp) sLen sCap]).run P w = .ok (goInt m) w' ∧ Blk w' g t (splice cur off cs) ∧ Keeps (· = g) w w' := by
  have hl := run_loadCells_list (P := P) w sp cs hsrc
  have hst := run_storeCells_at P g off t cs 0 cur.toArray w hg (by simpa using hfit) h1
  refine ⟨w.setRow g (cur.take off ++ cs ++ cur.drop (off + cs.length)).toArray, ?_, ?_, ⟨rfl, rfl, rfl, ?_, fun k hk hne => setRow_other w g k (cur.take off ++ cs ++ cur.drop (off + cs.length)).toArray hne⟩⟩
  · cases hq : P.info? elem with
    | none => simp [hq] at hsz
    | some i =>
      have hi : i.size = q := by simpa [hq] using hsz
      rw [hn] at hl
      simp [Builtin.copy_, run_underlying hu, Builtin.lenOf, Builtin.firstCells, sizeOf, typeInfo, hq, hi, ← hm, hl, hst]
  · show _ = _
    simpa [splice] using setRow_heap w g _ (cur.take off ++ cs ++ cur.drop (off + cs.length)).toArray t _ hg
  · simp [World.setRow]
variable {ops : Array Oper} {rest : List Oper} {o : Oper} {a : Act} {Q : Exit → Act → World → Prop}
theorem wpList_copyN {w : World} (hgd : o.guard = none) (d s : Operand) (dT sT : TypeId)
    (ho : o.op = .call { callee := .builtin .copy, args := #[d, s], argTypes := #[dT, sT] }) (elem : TypeId) (q : Nat) (hu : P.underlying dT = some (.slice elem)) (hsz : (P.info? elem).map (·.size) = some q)
    (sp : Addr) (m dLen dCap sLen sCap : Nat) (g off : Nat) (hd : a.eval d = .slice (some ⟨g, off, none⟩) dLen dCap) (hs : a.eval s = .slice (some sp) sLen sCap)
    (cur : List Value) (t : TypeId) (hg : Blk w g t cur) (cs : List Value) (hm : m = Nat.min sLen dLen) (hn : cs.length = m * q)
    (hsrc : ∀ j v, cs[j]? = some v → w.cell? (sp.add j) = some v)
    (hfit : off + cs.length ≤ cur.length) (h1 : ∀ v ∈ cs, v.oneCell' = true)
    (h : ∀ w', Hid (Blk w' g t (splice cur off cs)) → Keeps (· = g) w w' → wpList P ops Q rest (a.put o.dst (goInt m)) w') :
    wpList P ops Q (o :: rest) a w := by
  refine wpList_plain hgd fun K hK => ?_
  obtain ⟨w', hrun, r1, r2⟩ := run_copy_blkN (P := P) w dT sT o.type elem q hu hsz sp m dLen dCap sLen sCap g off cur t hg cs hm hn hsrc hfit h1
  unfold Oper.wp
  simp [execOp, ho, resolve, invoke, builtin, hd, hs, hrun, Result.andThen]
  exact hK _ _ (h w' r1 r2)
/-- .. as a step of a region that draws its order. -/
theorem step_copyN {w : World} {K : Act → World → Prop} {E : Prop} (hgd : o.guard = none) (d s : Operand) (dT sT : TypeId)
    (ho : o.op = .call { callee := .builtin .copy, args := #[d, s], argTypes := #[dT, sT] }) (elem : TypeId) (q : Nat) (hu : P.underlying dT = some (.slice elem)) (hsz : (P.info? elem).map (·.size) = some q)
    (sp : Addr) (m dLen dCap sLen sCap : Nat) (g off : Nat) (hd : a.eval d = .slice (some ⟨g, off, none⟩) dLen dCap) (hs : a.eval s = .slice (some sp) sLen sCap)
    (cur : List Value) (t : TypeId) (hg : Blk w g t cur) (cs : List Value) (hm : m = Nat.min sLen dLen) (hn : cs.length = m * q)
    (hsrc : ∀ j v, cs[j]? = some v → w.cell? (sp.add j) = some v)
    (hfit : off + cs.length ≤ cur.length) (h1 : ∀ v ∈ cs, v.oneCell' = true)
    (h : ∀ w', Hid (Blk w' g t (splice cur off cs)) → Keeps (· = g) w w' → K (a.put o.dst (goInt m)) w') :
    if Region.wanted o (yielded ops a.tmps) = true then Oper.wp P o a w K Q else E := by
  have hw : Region.wanted o (yielded ops a.tmps) = true := by simp [Region.wanted, hgd]
  rw [if_pos hw]
  obtain ⟨w', hrun, r1, r2⟩ := run_copy_blkN (P := P) w dT sT o.type elem q hu hsz sp m dLen dCap sLen sCap g off cur t hg cs hm hn hsrc hfit h1
  unfold Oper.wp
  simp [execOp, ho, resolve, invoke, builtin, hd, hs, hrun, Result.andThen]
  exact h w' r1 r2
/-- append of one element where there is room: in its place. -/
theorem append_room_el {W : World} (hgd : o.guard = none) (s x : Operand) (t e : TypeId) (q : Nat)
    (ho : o.op = .call { callee := .builtin .append, args := #[s, x], argTypes := #[t, t] })
    (ht : P.underlying t = some (.slice e)) (hsz : (P.info? e).map (·.size) = some q)
    (g n c : Nat) (cur ys : List Value) (b : Nat) (hs : a.eval s = .slice (some ⟨g, 0, none⟩) n c) (hx : a.eval x = .slice (some ⟨b, 0, none⟩) 1 1) (hys : ys.length = q) (h1 : ∀ u ∈ ys, u.oneCell' = true)
    (hk : Blk W g e cur) (hb : Blk W b e ys) (hroom : n + 1 ≤ c) (hfit : n * q + q ≤ cur.length)
    (h : ∀ w1, Hid (Blk w1 g e (splice cur (n * q) ys)) → Keeps (· = g) W w1 → wpList P ops Q rest (a.put o.dst (.slice (some ⟨g, 0, none⟩) (n + 1) c)) w1) :
    wpList P ops Q (o :: rest) a W := by
  obtain ⟨i0, hi, hz⟩ := Option.map_eq_some_iff.1 hsz
  have hr := run_append_room (P := P) W t o.type e i0 ht hi g n c cur.toArray hk ⟨b, 0, none⟩ 1 1 ys (by rw [hz]; omega) (fun j u hu => by
    have := hb.cell j
    rw [hu] at this
    rwa [show (⟨b, 0, none⟩ : Addr).add j = ⟨b, j, none⟩ by unfold Addr.add; split <;> simp_all]) h1 hroom (by rw [hz, hys]; simpa using hfit)
  rw [hz] at hr
  refine wpList_plain hgd fun K hK => ?_
  unfold Oper.wp execOp
  simp only [ho, resolve, invoke, builtin, Sem.run_bind, Sem.run_pure, Result.andThen_ok, List.map_toArray, List.map_cons, List.map_nil, hs, hx, hr]
  refine hK _ _ (h _ ?_ ?_)
  · refine Lib.hid ?_
    show _ = _
    simpa [splice] using setRow_heap W g _ (cur.take (n * q) ++ ys ++ cur.drop (n * q + ys.length)).toArray e _ hk
  · exact ⟨rfl, rfl, rfl, by simp [World.setRow], fun k hk2 hne => setRow_other W g k (cur.take (n * q) ++ ys ++ cur.drop (n * q + ys.length)).toArray hne⟩
end
end Go.Proofs.Ytadpgodmkodgdaa
