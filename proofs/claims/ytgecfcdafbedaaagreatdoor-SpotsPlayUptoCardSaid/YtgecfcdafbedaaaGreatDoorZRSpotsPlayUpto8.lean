/- Values of several cells: made, stored, loaded as wholes; The document's set of spots: what it holds; place, New, State. -/
import Derived.Test.YtgecfcdafbedaaaGreatDoorZRSpotsPlayUpto1
import Derived.Test.YtgecfcdafbedaaaGreatDoorZRSpotsPlayUpto5
import Derived.Test.YtgecfcdafbedaaaGreatDoorZRSpotsPlayUpto7
import Derived.Deep.MidRow
import Derived.Test.YtgecfcdafbedaaaGreatDoorZRSpotsPlayUpto4
namespace Go.Proofs.YtgecfcdafbedaaaGreatDoor
open Go.RowKit
set_option linter.unusedSimpArgs false
set_option linter.unusedVariables false

/-- A list of so many, as a function's. -/
theorem as_map (V : List Value) (n : Nat) (h : V.length = n) : ∃ f : Nat → Value, V = (List.range n).map f := by
  refine ⟨fun i => V[i]?.getD (.bool false), ?_⟩
  apply List.ext_getElem
  · simp [h]
  · intro i h1 h2
    simp [List.getElem?_eq_getElem h1]
section
variable {P : Program} {ops : Array Oper} {rest : List Oper} {o : Oper} {a : Act} {w : World} {Q : Exit → Act → World → Prop}
/-- A variable of several cells is made. -/
theorem wpList_allocT (hgd : o.guard = none) (T : TypeId) (Z : List Value) (hal : ∀ W, (execOp a.eval o).run P W = .ok (.value (.pointer (some ⟨W.heap.size, 0, none⟩))) (W.alloc (.cells Z.toArray T)))
    (h : ∀ w', Hid (Blk w' w.heap.size T Z) → Hid (Below w.heap.size w w') → wpList P ops Q rest (a.put o.dst (.pointer (some ⟨w.heap.size, 0, none⟩))) w') : wpList P ops Q (o :: rest) a w :=
  wpList_value hgd (hal w) (h _ (Lib.hid (Blk.new w T Z)) (Lib.hid ((Below.refl _ w).alloc (Nat.le_refl _) _)))
/-- A block is written over. -/
theorem wpList_over (hgd : o.guard = none) (T : TypeId) (x y : Operand) (ho : o.op = .store T x y) (g : Nat) (V cur : List Value) (t : TypeId) (hx : a.eval x = .pointer (some ⟨g, 0, none⟩)) (hy : a.eval y = .agg V.toArray)
    (hb : Blk w g t cur) (hl : V.length = cur.length) (hi : (P.info? T).map (·.size) = some V.length) (h1 : ∀ v ∈ V, v.oneCell' = true)
    (h : ∀ w', Hid (Blk w' g t V) → Hid (Keeps (· = g) w w') → wpList P ops Q rest (a.put o.dst undef) w') : wpList P ops Q (o :: rest) a w := by
  refine wpList_store_mid hgd T x y ho g 0 V.toArray hx hy (hb.there 0 _ (by simp; omega)) (by simpa using hi) (by simpa using h1) ?_
  refine h _ (Lib.hid ?_) (Lib.hid (Keeps.setCells (g := g) _ 0 _))
  have := hb.setCells V 0 w cur (by omega)
  rwa [splice_whole _ _ hl] at this
/-- A block's value. -/
theorem wpList_loadT (hgd : o.guard = none) (T : TypeId) (x : Operand) (ho : o.op = .load T x) (g : Nat) (hx : a.eval x = .pointer (some ⟨g, 0, none⟩)) (t : TypeId) (cs : List Value) (d : TypeDesc) (hg : Blk w g t cs)
    (hu : P.underlying T = some d) (hd : (match d with | .struct _ | .array _ _ => true | _ => false) = true) (hi : (P.info? T).map (·.size) = some cs.length)
    (h : wpList P ops Q rest (a.put o.dst (.agg cs.toArray)) w) : wpList P ops Q (o :: rest) a w :=
  wpList_load_row hgd T x ho g hx t cs.toArray (0, 0) d hg hu hd (by rw [List.size_toArray]; exact hi) h
theorem results_rowT {fn : Func} {p : Tmp} {ty : TypeId} (h : fn.results = #[.cell p ty]) (tmps : Array Value) (g : Nat) (t : TypeId) (cs : List Value) (d : TypeDesc)
    (hp : tmps.getD p undef = .pointer (some ⟨g, 0, none⟩)) (hg : Blk w g t cs)
    (hu : P.underlying ty = some d) (hd : (match d with | .struct _ | .array _ _ => true | _ => false) = true) (hi : (P.info? ty).map (·.size) = some cs.length) :
    (results fn tmps).run P w = .ok (.agg cs.toArray) w :=
  results_cell_row h tmps w g t cs.toArray (0, 0) d hp hg hu hd (by rw [List.size_toArray]; exact hi)
/-- A block is written over, as a step of a region that draws its order. -/
theorem step_overT {K : Act → World → Prop} {E : Prop} (hgd : o.guard = none) (T : TypeId) (x y : Operand) (ho : o.op = .store T x y) (g : Nat) (V cur : List Value) (t : TypeId) (hx : a.eval x = .pointer (some ⟨g, 0, none⟩)) (hy : a.eval y = .agg V.toArray)
    (hb : Blk w g t cur) (hl : V.length = cur.length) (hi : (P.info? T).map (·.size) = some V.length) (h1 : ∀ v ∈ V, v.oneCell' = true)
    (h : ∀ w', Hid (Blk w' g t V) → Hid (Keeps (· = g) w w') → K (a.put o.dst undef) w') : if Region.wanted o (yielded ops a.tmps) = true then Oper.wp P o a w K Q else E := by
  have hw : Region.wanted o (yielded ops a.tmps) = true := by simp [Region.wanted, hgd]
  rw [if_pos hw]
  refine wp_store_mid T x y ho g 0 V.toArray hx hy (hb.there 0 _ (by simp; omega)) (by simpa using hi) (by simpa using h1) ?_
  refine h _ (Lib.hid ?_) (Lib.hid (Keeps.setCells (g := g) _ 0 _))
  have := hb.setCells V 0 w cur (by omega)
  rwa [splice_whole _ _ hl] at this
/-- A plain list's operation whose value is known, guarded or not. -/
theorem wpList_want {w' : World} {v : Value} (hw : Region.wanted o (yielded ops a.tmps) = true) (hr : (execOp a.eval o).run P w = .ok (.value v) w') (h : wpList P ops Q rest (a.put o.dst v) w') : wpList P ops Q (o :: rest) a w := by
  rw [wpList, if_pos hw]
  exact .inl (by unfold Oper.wp; rw [hr]; exact h)
theorem wpList_not (hw : Region.wanted o (yielded ops a.tmps) = false) (h : wpList P ops Q rest (a.put o.dst undef) w) : wpList P ops Q (o :: rest) a w := by
  rw [wpList, if_neg (by rw [hw]; exact Bool.false_ne_true)]
  exact h
theorem exec_loadM {ty : TypeId} {x : Operand} (ho : o.op = .load ty x) (b off : Nat) (hx : a.eval x = .pointer (some ⟨b, off, none⟩)) (cs : List Value) (d : TypeDesc) (hc : w.rangeAt b off cs)
    (hu : P.underlying ty = some d) (hd : d.isRow = true) (hi : (P.info? ty).map (·.size) = some cs.length) : (execOp a.eval o).run P w = .ok (.value (.agg cs.toArray)) w := by
  unfold execOp
  simp only [ho, hx, Instr.loadAt, Instr.sureAddr, Sem.run_bind, Sem.run_pure, Result.andThen_ok, run_loadVar_mid w b off ty cs d hc hu hd hi]
theorem exec_sliceB {w w' : World} {v : Value} {t : TypeId} {x : Operand} {lo hi mx : Option Operand} (ho : o.op = .slice t x lo hi mx)
    (h : (Instr.sliceAt t (a.eval x) (lo.map a.eval) (hi.map a.eval) (mx.map a.eval)).run P w = .ok v w') : (execOp a.eval o).run P w = .ok (.value v) w' := by
  unfold execOp
  simp only [ho, Sem.run_bind, Sem.run_pure, h, Result.andThen_ok]
end
end Go.Proofs.YtgecfcdafbedaaaGreatDoor

namespace Go.Proofs.YtgecfcdafbedaaaGreatDoor
open Go.RowKit
set_option linter.unusedSimpArgs false
set_option linter.unusedVariables false

/-- One spot of the document's set. -/
structure Rs where
  at_ : Int
  sure : Bool
  asked : Bool
  sum : List Int
def rsC (s : Rs) : List Value := .int .u32 s.at_ :: .bool s.sure :: .bool s.asked :: s.sum.map (Value.int .u8)
theorem rsC_len {s : Rs} (h : s.sum.length = 32) : (rsC s).length = 35 := by simp [rsC, h]
def flatR : List Rs → List Value
  | [] => []
  | s :: l => rsC s ++ flatR l
theorem flatR_snoc : ∀ (l : List Rs) (s : Rs), flatR (l ++ [s]) = flatR l ++ rsC s
  | [], s => by simp [flatR]
  | x :: l, s => by simp [flatR, flatR_snoc l s]
theorem flatR_len : ∀ (l : List Rs), (∀ s ∈ l, s.sum.length = 32) → (flatR l).length = l.length * 35
  | [], _ => rfl
  | x :: l, h => by
    rw [flatR, List.length_append, flatR_len l (fun y hy => h y (by simp [hy])), rsC_len (h x (by simp)), List.length_cons]; omega
theorem flatR_at : ∀ (l : List Rs), (∀ s ∈ l, s.sum.length = 32) → ∀ (cs : List Value) (j : Nat) (s : Rs), l[j]? = some s → ∀ i v, (rsC s)[i]? = some v → (flatR l ++ cs)[j * 35 + i]? = some v
  | [], _, _, j, s, h, i, v, _ => by simp at h
  | y :: l, hl, cs, 0, s, h, i, v, hv => by
    simp at h; subst h
    have hi := (List.getElem?_eq_some_iff.1 hv).1
    rw [Nat.zero_mul, Nat.zero_add, flatR, List.append_assoc, List.getElem?_append_left hi]; exact hv
  | y :: l, hl, cs, j + 1, s, h, i, v, hv => by
    have hy := rsC_len (hl y (by simp))
    rw [flatR, List.append_assoc, List.getElem?_append_right (by rw [hy]; omega), hy, show (j + 1) * 35 + i - 35 = j * 35 + i by omega]
    exact flatR_at l (fun z hz => hl z (by simp [hz])) cs j s (by simpa using h) i v hv
theorem splice_left (A B : List Value) (o : Nat) (vs : List Value) (h : o + vs.length ≤ A.length) : splice (A ++ B) o vs = splice A o vs ++ B := by
  simp only [splice]
  rw [List.take_append_of_le_length (by omega), List.drop_append_of_le_length (by omega)]
  simp
theorem splice_right (A B : List Value) (o : Nat) (vs : List Value) : splice (A ++ B) (A.length + o) vs = A ++ splice B o vs := by
  simp only [splice]
  rw [List.take_length_add_append, show A.length + o + vs.length = A.length + (o + vs.length) by omega, List.drop_append]
  simp
theorem flatR_splice : ∀ (l : List Rs), (∀ s ∈ l, s.sum.length = 32) → ∀ (cs : List Value) (j : Nat) (s s' : Rs) (o : Nat) (vs : List Value), l[j]? = some s → o + vs.length ≤ 35 → splice (rsC s) o vs = rsC s' → splice (flatR l ++ cs) (j * 35 + o) vs = flatR (l.set j s') ++ cs
  | [], _, _, j, s, _, _, _, h, _, _ => by simp at h
  | y :: l, hl, cs, 0, s, s', o, vs, h, ho, hs => by
    simp at h; subst h
    have hy := rsC_len (hl y (by simp))
    rw [Nat.zero_mul, Nat.zero_add, flatR, List.append_assoc, splice_left _ _ _ _ (by omega), hs, List.set_cons_zero, flatR, List.append_assoc]
  | y :: l, hl, cs, j + 1, s, s', o, vs, h, ho, hs => by
    have hy := rsC_len (hl y (by simp))
    rw [flatR, List.append_assoc, show (j + 1) * 35 + o = (rsC y).length + (j * 35 + o) by omega, splice_right, flatR_splice l (fun z hz => hl z (by simp [hz])) cs j s s' o vs (by simpa using h) ho hs, List.set_cons_succ, flatR, List.append_assoc]
theorem splice_one (cs : List Value) (i : Nat) (v : Value) (h : i < cs.length) : splice cs i [v] = cs.set i v := by
  rw [List.set_eq_take_append_cons_drop]; simp [splice, h]
/-- The document's set of spots. -/
structure RSetAt (w : World) (p g c : Nat) (l : List Rs) (cs : List Value) (cr : Int) : Prop where
  set : Blk w p 82 [.slice (some ⟨g, 0, none⟩) l.length c, .int .i64 cr]
  row : Blk w g 79 (flatR l ++ cs)
  sums : ∀ s ∈ l, s.sum.length = 32
  len : 1 ≤ l.length ∧ l.length ≤ 4
  cap : l.length ≤ c
  ats : ∀ s ∈ l, 0 ≤ s.at_ ∧ s.at_ ≤ 4294967295
  cred : 0 ≤ cr ∧ cr ≤ 2048
section
variable {w w' : World} {p g c : Nat} {l : List Rs} {cs : List Value} {cr : Int}
theorem RSetAt.pg (h : RSetAt w p g c l cs cr) : p ≠ g := blk_ne h.set h.row (by decide)
theorem RSetAt.keep {M : Nat → Prop} (h : RSetAt w p g c l cs cr) (k : Keeps M w w') (h1 : ¬ M p) (h2 : ¬ M g) : RSetAt w' p g c l cs cr :=
  ⟨h.set.keep k h1, h.row.keep k h2, h.sums, h.len, h.cap, h.ats, h.cred⟩
theorem RSetAt.below (h : RSetAt w p g c l cs cr) (hB : Below w.heap.size w w') : RSetAt w' p g c l cs cr := h.keep (Keeps.of_below (M := fun _ => False) hB) (fun h => h) (fun h => h)
theorem RSetAt.c0 (h : RSetAt w p g c l cs cr) : w.cell? ⟨p, 0, none⟩ = some (.slice (some ⟨g, 0, none⟩) l.length c) := h.set.cell 0
theorem RSetAt.c1 (h : RSetAt w p g c l cs cr) : w.cell? ⟨p, 1, none⟩ = some (.int .i64 cr) := h.set.cell 1
theorem RSetAt.range (h : RSetAt w p g c l cs cr) {j : Nat} {s : Rs} (hs : l[j]? = some s) : w.rangeAt g (j * 35) (rsC s) := fun i v hi => by
  rw [h.row.cell]
  exact flatR_at l h.sums cs j s hs i v hi
theorem RSetAt.cell1 (h : RSetAt w p g c l cs cr) {j : Nat} {s : Rs} (hs : l[j]? = some s) : w.cell? ⟨g, j * 35, none⟩ = some (.int .u32 s.at_) ∧ w.cell? ⟨g, j * 35 + 1, none⟩ = some (.bool s.sure) ∧ w.cell? ⟨g, j * 35 + 2, none⟩ = some (.bool s.asked) ∧ w.rangeAt g (j * 35 + 3) (s.sum.map (Value.int .u8)) :=
  ⟨h.range hs 0 _ rfl, h.range hs 1 _ rfl, h.range hs 2 _ rfl, fun i v hi => by
    have := h.range hs (i + 3) v (by rw [rsC, List.getElem?_cons_succ, List.getElem?_cons_succ, List.getElem?_cons_succ]; exact hi)
    rwa [show j * 35 + (i + 3) = j * 35 + 3 + i by omega] at this⟩
end
theorem findG_first {α : Type} {q : α → Bool} : ∀ {l : List α} {i : Nat} {s : α}, l[i]? = some s → q s = true → (∀ j s', j < i → l[j]? = some s' → q s' = false) → l.find? q = some s
  | [], i, s, h, _, _ => by simp at h
  | x :: l, 0, s, h, hq, _ => by
    simp at h; subst h
    simp [hq]
  | x :: l, i + 1, s, h, hq, hp => by
    have h0 := hp 0 x (by omega) rfl
    rw [List.find?_cons, h0]
    exact findG_first (i := i) (by simpa using h) hq (fun j s' hj hs => hp (j + 1) s' (by omega) (by simpa using hs))
theorem findG_no {α : Type} {q : α → Bool} {l : List α} (h : ∀ s ∈ l, q s = false) : l.find? q = none := by
  rw [List.find?_eq_none]
  intro s hs
  rw [h s hs]
  exact Bool.false_ne_true
/-- The first of whom it is true, changed. -/
def updG {α : Type} (q : α → Bool) (f : α → α) : List α → List α
  | [] => []
  | s :: l => if q s = true then f s :: l else s :: updG q f l
theorem updG_set {α : Type} {q : α → Bool} {f : α → α} : ∀ {l : List α} {i : Nat} {s : α}, l[i]? = some s → q s = true → (∀ j s', j < i → l[j]? = some s' → q s' = false) → l.set i (f s) = updG q f l
  | [], i, s, h, _, _ => by simp at h
  | x :: l, 0, s, h, hq, _ => by
    simp at h; subst h
    simp [updG, hq]
  | x :: l, i + 1, s, h, hq, hp => by
    have h0 := hp 0 x (by omega) rfl
    rw [updG, if_neg (by rw [h0]; exact Bool.false_ne_true), List.set_cons_succ, updG_set (i := i) (by simpa using h) hq (fun j s' hj hs => hp (j + 1) s' (by omega) (by simpa using hs))]
theorem updG_no {α : Type} {q : α → Bool} {f : α → α} : ∀ {l : List α}, (∀ s ∈ l, q s = false) → updG q f l = l
  | [], _ => rfl
  | x :: l, h => by rw [updG, if_neg (by rw [h x (by simp)]; exact Bool.false_ne_true), updG_no (fun s hs => h s (by simp [hs]))]
def isR (a : Int) (s : Rs) : Bool := s.at_ == a
/-- Where it is. -/
def PlaceR (l : List Rs) (q : Rs → Bool) (e : Ending) : Prop :=
  (∃ (i : Nat) (s : Rs), e = .returned (.int .i64 (i : Int)) ∧ l[i]? = some s ∧ q s = true ∧ ∀ j s', j < i → l[j]? = some s' → q s' = false) ∨ (e = .returned (.int .i64 (-1)) ∧ ∀ s ∈ l, q s = false)
theorem rsize : (Tryz.prog.info? 79).map (·.size) = some 35 := by kernel_rfl
set_option maxRecDepth 100000 in
set_option maxHeartbeats 1000000 in
theorem place_any {w : World} {p g c : Nat} {l : List Rs} {cs : List Value} {cr : Int} (h : RSetAt w p g c l cs cr) (a : Int) :
    Calls Tryz.prog 31 #[.pointer (some ⟨p, 0, none⟩), .int .u32 a] w fun e w' => PlaceR l (isR a) e ∧ w = w' := by
  have HT := Lib.hid h
  have c0 := h.c0
  have hcap := h.cap
  obtain ⟨n, hn⟩ : ∃ n, l.length = n := ⟨_, rfl⟩
  have hn4 : 1 ≤ n ∧ n ≤ 4 := by have := h.len; omega
  have HN := Lib.hid hn
  rw [hn] at c0 hcap
  clear h hn
  go_enter Tryz.func31, Tryz.ntmps31
  go_wp2_with fail
  go_loopw [5] (fun i wr => ∃ k : Nat, k ≤ n ∧ i = .int .i64 k ∧ (∀ j s', j < k → l[j]? = some s' → isR a s' = false) ∧ w = wr) (fun i _ => n - (intOf i).toNat)
  case atStart => exact ⟨0, Nat.zero_le _, rfl, fun j s' hj => by omega, rfl⟩
  case round =>
    obtain ⟨k, hk, rfl, hno, rfl⟩ := hrel
    have HNO := Lib.hid hno
    clear hno
    by_cases hlt : k < n
    · obtain ⟨s, hs⟩ : ∃ s, l[k]? = some s := ⟨_, List.getElem?_eq_getElem (by rw [HN.out]; exact hlt)⟩
      obtain ⟨m0, -, -, -⟩ := HT.out.cell1 hs
      have i0 : (0 : Int) ≤ (k : Int) := by omega
      have i1 : (k : Int) < (n : Int) := by omega
      have HS := Lib.hid hs
      obtain ⟨x, hx⟩ : ∃ x, s.at_ = x := ⟨_, rfl⟩
      rw [hx] at m0
      have HX := Lib.hid hx
      clear hs hx
      by_cases hq : x = a
      · subst hq
        have hq' : (x == x) = true := beq_self_eq_true x
        go_wp2_with fail
        go_ret
        exact ⟨.inl ⟨k, s, rfl, HS.out, by simp [isR, HX.out], HNO.out⟩, rfl⟩
      · have hq' : (x == a) = false := beq_eq_false_iff_ne.2 hq
        go_wp2_with fail
        go_roundw
        case rel =>
          refine ⟨k + 1, by omega, by go_num, fun j s' hj hs' => ?_, trivial⟩
          rcases Nat.lt_or_ge j k with h1 | h1
          · exact HNO.out j s' h1 hs'
          · obtain rfl : j = k := by omega
            rw [HS.out] at hs'
            injection hs' with hs'
            subst hs'
            simp [isR, HX.out, hq]
        case measure => simp [intOf]; omega
    · obtain rfl : k = n := by omega
      go_wp2_with fail
      go_ret
      refine ⟨.inr ⟨rfl, fun s hs => ?_⟩, rfl⟩
      obtain ⟨j, hj, rfl⟩ := List.getElem_of_mem hs
      exact HNO.out j _ (by rw [← HN.out]; exact hj) (List.getElem?_eq_getElem hj)
/-- What New makes. -/
theorem rnew_any (a : Int) (w : World) (ha : 1 ≤ a ∧ a ≤ 4294967295) :
    Calls Tryz.prog 6 #[.int .u32 a] w fun e w' => ∃ p g, e = .returned (.tuple #[.pointer (some ⟨p, 0, none⟩), .int .i64 0]) ∧ w.heap.size ≤ p ∧ w.heap.size ≤ g ∧ RSetAt w' p g 1 [⟨a, true, false, List.replicate 32 0⟩] [] 0 ∧ Below w.heap.size w w' := by
  have hne : (a == 0) = false := beq_eq_false_iff_ne.2 (by omega)
  have HA := Lib.hid ha
  clear ha
  go_enter Tryz.func6, Tryz.ntmps6
  go_wp2_with fail
  go_ret2
  have hB1 := new_belowS w (.cells (rsC ⟨a, true, false, List.replicate 32 0⟩).toArray 79)
  have hk1 := Blk.new w 79 (rsC ⟨a, true, false, List.replicate 32 0⟩)
  have hk2 := Blk.new (w.alloc (.cells (rsC ⟨a, true, false, List.replicate 32 0⟩).toArray 79)) 82 [.slice (some ⟨w.heap.size, 0, none⟩) 1 1, .int .i64 0]
  rw [show (w.alloc (.cells (rsC ⟨a, true, false, List.replicate 32 0⟩).toArray 79)).heap.size = w.heap.size + 1 from by simp] at hk2
  refine ⟨_, w.heap.size, rfl, by simp, Nat.le_refl _, ⟨hk2, ?_, fun s hs => ?_, ⟨by simp, by simp⟩, by simp, fun s hs => ?_, by omega⟩, (hB1.alloc (by simp) _)⟩
  · exact hk1.alloc _
  · simp at hs; subst hs; simp
  · simp at hs; subst hs; have := HA.out; simp only; omega
theorem rnew_zero (w : World) : Calls Tryz.prog 6 #[.int .u32 0] w fun e w' => e = .returned (.tuple #[.pointer none, .int .i64 1]) ∧ w = w' := by
  go_enter Tryz.func6, Tryz.ntmps6
  go_wp2_with fail
  go_ret2
  exact ⟨rfl, rfl⟩
/-- What is known of a spot. -/
def rstateOf (l : List Rs) (a : Int) : Int := match l.find? (isR a) with
  | some s => if s.sure = true then 2 else 1
  | none => 0
theorem rstate_any {w : World} {p g c : Nat} {l : List Rs} {cs : List Value} {cr : Int} (h : RSetAt w p g c l cs cr) (a : Int) :
    Calls Tryz.prog 25 #[.pointer (some ⟨p, 0, none⟩), .int .u32 a] w fun e w' => e = .returned (.int .u8 (rstateOf l a)) ∧ w = w' := by
  have HT := Lib.hid h
  have HP := Lib.hid (place_any h a)
  have c0 := h.c0
  have hlen := h.len
  clear h
  go_enter Tryz.func25, Tryz.ntmps25
  go_wp2_with fail
  refine HP.out.mono ?_; rintro e w' ⟨hr, rfl⟩
  rcases hr with ⟨i, s, rfl, hi, hq, hp⟩ | ⟨rfl, hno⟩
  · obtain ⟨-, m1, -, -⟩ := HT.out.cell1 hi
    have HA : Hid (rstateOf l a = if s.sure = true then 2 else 1) := Lib.hid (by unfold rstateOf; rw [findG_first hi hq hp])
    have hil := (List.getElem?_eq_some_iff.1 hi).1
    obtain ⟨n, hn⟩ : ∃ n, l.length = n := ⟨_, rfl⟩
    rw [hn] at hil c0 hlen
    have i0 : (0 : Int) ≤ (i : Int) := by omega
    have i1 : (i : Int) < (n : Int) := by omega
    have i2 : ¬ ((i : Int) < 0) := by omega
    cases hsu : s.sure with
    | true =>
      rw [hsu] at m1 HA
      rw [if_pos rfl] at HA
      clear hi hq hp hn
      go_wp2_with fail
      go_ret
      exact ⟨ret_int HA.out.symm, rfl⟩
    | false =>
      rw [hsu] at m1 HA
      rw [if_neg Bool.false_ne_true] at HA
      clear hi hq hp hn
      go_wp2_with fail
      go_ret
      exact ⟨ret_int HA.out.symm, rfl⟩
  · have HA : Hid (rstateOf l a = 0) := Lib.hid (by unfold rstateOf; rw [findG_no hno])
    clear hno
    go_wp2_with fail
    go_ret
    exact ⟨ret_int HA.out.symm, rfl⟩
end Go.Proofs.YtgecfcdafbedaaaGreatDoor
