/- Pieces' headers: pieces laid down one behind the other, each body in a block of its own; what holds of them while they are moved about; copies of elements of many cells; append where there is room; The walks over params.twin, params.twins: the same pieces, each body in a block of its own, in a row with room for one more. -/
import Derived.Test.YtlcnjdpfijgcdaaZRParamsBodiesBack20
import Derived.Test.YtlcnjdpfijgcdaaZRParamsBodiesBack1
import Derived.Laws.CopyRow
import Derived.Test.YtlcnjdpfijgcdaaZRParamsBodiesBack19
namespace Go.Proofs.Ytlcnjdpfijgcdaa
open Go.RowKit
set_option linter.unusedSimpArgs false
set_option linter.unusedVariables false

/-- A piece, and where its body lies. -/
structure Hd where
  p : Piece
  B : Option Addr
  c : Nat
def hcell (h : Hd) : List Value := [.int .u16 h.p.1, .slice h.B h.p.2.length h.c]
def hcells (hs : List Hd) : List Value := hs.flatMap hcell
theorem hcells_nil : hcells [] = [] := rfl
theorem hcells_cons (h : Hd) (hs : List Hd) : hcells (h :: hs) = hcell h ++ hcells hs := rfl
theorem hcells_append (hs ks : List Hd) : hcells (hs ++ ks) = hcells hs ++ hcells ks := by simp [hcells]
theorem hcells_length (hs : List Hd) : (hcells hs).length = hs.length * 2 := by
  induction hs with
  | nil => rfl
  | cons h hs ih => rw [hcells_cons, List.length_append, ih, List.length_cons]; simp [hcell]; omega
theorem hcells_take (hs : List Hd) (k : Nat) : hcells (hs.take k) = (hcells hs).take (k * 2) := by
  induction hs generalizing k with
  | nil => simp [hcells]
  | cons h hs ih =>
    cases k with
    | zero => simp [hcells]
    | succ k =>
      rw [List.take_succ_cons, hcells_cons, hcells_cons, ih, List.take_append, show (k + 1) * 2 - (hcell h).length = k * 2 by (have : (hcell h).length = 2 := rfl); omega, List.take_of_length_le (show (hcell h).length ≤ (k + 1) * 2 by (have : (hcell h).length = 2 := rfl); omega)]
theorem hcells_drop (hs : List Hd) (k : Nat) : hcells (hs.drop k) = (hcells hs).drop (k * 2) := by
  induction hs generalizing k with
  | nil => simp [hcells]
  | cons h hs ih =>
    cases k with
    | zero => simp [hcells]
    | succ k =>
      rw [List.drop_succ_cons, hcells_cons, ih, List.drop_append, show (k + 1) * 2 - (hcell h).length = k * 2 by (have : (hcell h).length = 2 := rfl); omega, List.drop_of_length_le (show (hcell h).length ≤ (k + 1) * 2 by (have : (hcell h).length = 2 := rfl); omega), List.nil_append]
theorem hcells_at {hs : List Hd} {j : Nat} {h : Hd} (hj : hs[j]? = some h) : (hcells hs)[j * 2]? = some (.int .u16 h.p.1) ∧ (hcells hs)[j * 2 + 1]? = some (.slice h.B h.p.2.length h.c) := by
  obtain ⟨hl, he⟩ := List.getElem?_eq_some_iff.1 hj
  have e : hcells (hs.drop j) = hcell h ++ hcells (hs.drop (j + 1)) := by rw [List.drop_eq_getElem_cons hl, he, hcells_cons]
  rw [hcells_drop] at e
  have e0 := congrArg (·[0]?) e
  have e1 := congrArg (·[1]?) e
  simp only [List.getElem?_drop, Nat.add_zero] at e0 e1
  exact ⟨by rw [e0]; rfl, by rw [e1]; rfl⟩
theorem hcells_one {hs : List Hd} : ∀ u ∈ hcells hs, u.oneCell' = true := by
  intro u hu
  simp only [hcells, List.mem_flatMap, hcell] at hu
  obtain ⟨h, _, hu⟩ := hu
  simp only [List.mem_cons, List.not_mem_nil, or_false] at hu
  rcases hu with rfl | rfl <;> rfl

/-- Two pieces whose bodies share no block. -/
def Ap (a b : Hd) : Prop := ∀ g, a.B = some ⟨g, 0, none⟩ → b.B ≠ some ⟨g, 0, none⟩
theorem Ap.symm {a b : Hd} (h : Ap a b) : Ap b a := fun g h1 h2 => h g h2 h1
/-- The bodies are the call's own, each in a block of its own. -/
structure HdsIn (base : Nat) (w : World) (hs : List Hd) : Prop where
  row : ∀ h ∈ hs, RowG 5 1 base w (.slice h.B h.p.2.length h.c) h.p.2.length (h.p.2.map (Value.int .u8))
  apart : hs.Pairwise Ap
section
variable {base : Nat} {w w' : World} {hs : List Hd}
theorem HdsIn.nil : HdsIn base w [] := ⟨fun h hh => by simp at hh, List.Pairwise.nil⟩
theorem HdsIn.keep {M : Nat → Prop} (h : HdsIn base w hs) (hk : Keeps M w w') (hM : ∀ k cur, base ≤ k → w.heap[k]? = some (.cells cur 5 (0, 0)) → ¬ M k) : HdsIn base w' hs :=
  ⟨fun x hx => (h.row x hx).keep hk (fun k hk2 => by obtain ⟨h1, _, cur, h2⟩ := (h.row x hx).ty hk2; exact hM k cur h1 h2), h.apart⟩
theorem HdsIn.below (h : HdsIn base w hs) (hB : Below w.heap.size w w') : HdsIn base w' hs := h.keep (Keeps.of_below (M := fun _ => False) hB) (fun _ _ _ _ h => h)
/-- What is written into a block of pieces leaves the bodies. -/
theorem HdsIn.keepP {g : Nat} {cs : List Value} (h : HdsIn base w hs) (hk : Keeps (· = g) w w') (hg : Blk w g 69 cs) : HdsIn base w' hs := h.keep hk (fun k cur _ hc e => by
  subst e
  unfold Blk at hg
  exact absurd (ty_one hc hg) (by decide))
theorem HdsIn.lower {base' : Nat} (h : HdsIn base w hs) (hb : base' ≤ base) : HdsIn base' w hs := ⟨fun x hx => (h.row x hx).lower hb, h.apart⟩
theorem HdsIn.sub {ks : List Hd} (h : HdsIn base w hs) (hs' : ks.Sublist hs) : HdsIn base w ks := ⟨fun x hx => h.row x (hs'.subset hx), h.apart.sublist hs'⟩
theorem HdsIn.mid {l r : List Hd} {x : Hd} (h : HdsIn base w (l ++ r)) (hx : RowG 5 1 base w (.slice x.B x.p.2.length x.c) x.p.2.length (x.p.2.map (Value.int .u8))) (ha : ∀ y ∈ l ++ r, Ap x y) : HdsIn base w (l ++ x :: r) := by
  have hp := List.pairwise_append.1 h.apart
  refine ⟨fun y hy => ?_, List.pairwise_append.2 ⟨hp.1, List.pairwise_cons.2 ⟨fun y hy => ha y (by simp [hy]), hp.2.1⟩, fun a ha' b hb => ?_⟩⟩
  · simp only [List.mem_append, List.mem_cons] at hy
    rcases hy with hy | rfl | hy
    · exact h.row y (by simp [hy])
    · exact hx
    · exact h.row y (by simp [hy])
  · rcases List.mem_cons.1 hb with rfl | hb
    · exact (ha a (by simp [ha'])).symm
    · exact hp.2.2 a ha' b hb
theorem HdsIn.blk (h : HdsIn base w hs) {x : Hd} (hx : x ∈ hs) {g : Nat} (hg : x.B = some ⟨g, 0, none⟩) : base ≤ g ∧ g < w.heap.size := by
  obtain ⟨h1, h2, _⟩ := (h.row x hx).ty (k := g) (by rw [hg]; rfl)
  exact ⟨h1, h2⟩
theorem HdsIn.psOwn {v : Value} (h : HdsIn base w hs) (hr : RowG 69 2 base w v hs.length (hcells hs)) : PsOwn base w v (hs.map (·.p)) (hcells hs) := by
  have at_ : ∀ i g n c, (hcells hs)[i * 2 + 1]? = some (.slice (some ⟨g, 0, none⟩) n c) → ∃ hi : i < hs.length, hs[i].B = some ⟨g, 0, none⟩ := fun i g n c hi => by
    have hl := (List.getElem?_eq_some_iff.1 hi).1
    rw [hcells_length] at hl
    have hi' : i < hs.length := by omega
    refine ⟨hi', ?_⟩
    have := (hcells_at (List.getElem?_eq_getElem hi')).2
    rw [hi] at this
    injection this with this
    injection this with this _ _
    exact this.symm
  refine ⟨by simpa using hr, fun j t body hj => ?_, fun i j g n c n' c' hne h1 h2 => ?_⟩
  · rw [List.getElem?_map, Option.map_eq_some_iff] at hj
    obtain ⟨x, hx, hp⟩ := hj
    obtain ⟨e1, e2⟩ := hcells_at hx
    have hr := h.row x (List.mem_of_getElem? hx)
    rw [hp] at e1 e2 hr
    exact ⟨_, _, e1, e2, hr⟩
  · obtain ⟨hi, ei⟩ := at_ i g n c h1
    obtain ⟨hj, ej⟩ := at_ j g n' c' h2
    have hp := List.pairwise_iff_getElem.1 h.apart
    rcases Nat.lt_or_gt_of_ne hne with hlt | hlt
    · exact hp i j hi hj hlt g ei ej
    · exact hp j i hj hi hlt g ej ei
end
/-- A block that is known whole, as a row. -/
theorem RowG.of_blk {E : TypeId} {q base : Nat} {w : World} {g n c cap : Nat} {cur cs : List Value} (hk : Blk w g E cur) (hb : base ≤ g) (hcur : cur.length = cap * q) (hn : n ≤ c) (hc : c ≤ cap) (hm : cap ≤ maxLen) (hcs : cs.length = n * q) (ht : cur.take (n * q) = cs) :
    RowG E q base w (.slice (some ⟨g, 0, none⟩) n c) n cs :=
  ⟨_, c, cap, rfl, hn, hc, hcs, .inr ⟨g, cap, cur.toArray, rfl, hb, hk, by omega, hm, by simpa using hcur, by simpa using ht⟩⟩

section
variable {P : Program}
/-- What the builtin copy does with elements of many cells: the cells cs, laid over a block that is known whole. -/
theorem run_copy_blkN (w : World) (dT sT ty elem : TypeId) (q : Nat) (hu : P.underlying dT = some (.slice elem)) (hsz : (P.info? elem).map (·.size) = some q)
    (sp : Addr) (m dLen dCap sLen sCap : Nat) (g off : Nat) (cur : List Value) (t : TypeId) (hg : Blk w g t cur) (cs : List Value) (hm : m = Nat.min sLen dLen) (hn : cs.length = m * q)
    (hsrc : ∀ j v, cs[j]? = some v → w.cell? (sp.add j) = some v)
    (hfit : off + cs.length ≤ cur.length) (h1 : ∀ v ∈ cs, v.oneCell' = true) :
    ∃ w', (Builtin.copy_ #[dT, sT] ty #[.slice (some ⟨g, off, none⟩) dLen dCap, .slice (some sp) sLen sCap]).run P w = .ok (goInt m) w' ∧ Blk w' g t (splice cur off cs) ∧ Keeps (· = g) w w' := by
  have hl := run_loadCells_list (P := P) w sp cs hsrc
  have hst := run_storeCells_at P g off t cs 0 cur.toArray w hg (by simpa using hfit) h1
  refine ⟨w.setRow g (cur.take off ++ cs ++ cur.drop (off + cs.length)).toArray, ?_, ?_, ⟨rfl, rfl, rfl, ?_, fun k hk hne => setRow_other w g k (cur.take off ++ cs ++ cur.drop (off + cs.length)).toArray hne⟩⟩
  · cases hq : P.info? elem with
    | none => simp [hq] at hsz
    | some i =>
      have hi : i.size = q := by simpa [hq] using hsz
      rw [hn] at hl
      simp [Builtin.copy_, run_underlying hu, Builtin.lenOf, Builtin.firstCells, sizeOf, typeInfo, hq, hi, ← hm, hl, hst]
  · show _ = _
    simpa [splice] using setRow_heap w g _ (cur.take off ++ cs ++ cur.drop (off + cs.length)).toArray t _ hg
  · simp [World.setRow]
variable {ops : Array Oper} {rest : List Oper} {o : Oper} {a : Act} {Q : Exit → Act → World → Prop}
theorem wpList_copyN {w : World} (hgd : o.guard = none) (d s : Operand) (dT sT : TypeId)
    (ho : o.op = .call { callee := .builtin .copy, args := #[d, s], argTypes := #[dT, sT] }) (elem : TypeId) (q : Nat) (hu : P.underlying dT = some (.slice elem)) (hsz : (P.info? elem).map (·.size) = some q)
    (sp : Addr) (m dLen dCap sLen sCap : Nat) (g off : Nat) (hd : a.eval d = .slice (some ⟨g, off, none⟩) dLen dCap) (hs : a.eval s = .slice (some sp) sLen sCap)
    (cur : List Value) (t : TypeId) (hg : Blk w g t cur) (cs : List Value) (hm : m = Nat.min sLen dLen) (hn : cs.length = m * q)
    (hsrc : ∀ j v, cs[j]? = some v → w.cell? (sp.add j) = some v)
    (hfit : off + cs.length ≤ cur.length) (h1 : ∀ v ∈ cs, v.oneCell' = true)
    (h : ∀ w', Hid (Blk w' g t (splice cur off cs)) → Keeps (· = g) w w' → wpList P ops Q rest (a.put o.dst (goInt m)) w') :
    wpList P ops Q (o :: rest) a w := by
  refine wpList_plain hgd fun K hK => ?_
  obtain ⟨w', hrun, r1, r2⟩ := run_copy_blkN (P := P) w dT sT o.type elem q hu hsz sp m dLen dCap sLen sCap g off cur t hg cs hm hn hsrc hfit h1
  unfold Oper.wp
  simp [execOp, ho, resolve, invoke, builtin, hd, hs, hrun, Result.andThen]
  exact hK _ _ (h w' r1 r2)
/-- .. as a step of a region that draws its order. -/
theorem step_copyN {w : World} {K : Act → World → Prop} {E : Prop} (hgd : o.guard = none) (d s : Operand) (dT sT : TypeId)
    (ho : o.op = .call { callee := .builtin .copy, args := #[d, s], argTypes := #[dT, sT] }) (elem : TypeId) (q : Nat) (hu : P.underlying dT = some (.slice elem)) (hsz : (P.info? elem).map (·.size) = some q)
    (sp : Addr) (m dLen dCap sLen sCap : Nat) (g off : Nat) (hd : a.eval d = .slice (some ⟨g, off, none⟩) dLen dCap) (hs : a.eval s = .slice (some sp) sLen sCap)
    (cur : List Value) (t : TypeId) (hg : Blk w g t cur) (cs : List Value) (hm : m = Nat.min sLen dLen) (hn : cs.length = m * q)
    (hsrc : ∀ j v, cs[j]? = some v → w.cell? (sp.add j) = some v)
    (hfit : off + cs.length ≤ cur.length) (h1 : ∀ v ∈ cs, v.oneCell' = true)
    (h : ∀ w', Hid (Blk w' g t (splice cur off cs)) → Keeps (· = g) w w' → K (a.put o.dst (goInt m)) w') :
    if Region.wanted o (yielded ops a.tmps) = true then Oper.wp P o a w K Q else E := by
  have hw : Region.wanted o (yielded ops a.tmps) = true := by simp [Region.wanted, hgd]
  rw [if_pos hw]
  obtain ⟨w', hrun, r1, r2⟩ := run_copy_blkN (P := P) w dT sT o.type elem q hu hsz sp m dLen dCap sLen sCap g off cur t hg cs hm hn hsrc hfit h1
  unfold Oper.wp
  simp [execOp, ho, resolve, invoke, builtin, hd, hs, hrun, Result.andThen]
  exact h w' r1 r2
/-- append of one element where there is room: in its place. -/
theorem append_room_el {W : World} (hgd : o.guard = none) (s x : Operand) (t e : TypeId) (q : Nat)
    (ho : o.op = .call { callee := .builtin .append, args := #[s, x], argTypes := #[t, t] })
    (ht : P.underlying t = some (.slice e)) (hsz : (P.info? e).map (·.size) = some q)
    (g n c : Nat) (cur ys : List Value) (b : Nat) (hs : a.eval s = .slice (some ⟨g, 0, none⟩) n c) (hx : a.eval x = .slice (some ⟨b, 0, none⟩) 1 1) (hys : ys.length = q) (h1 : ∀ u ∈ ys, u.oneCell' = true)
    (hk : Blk W g e cur) (hb : Blk W b e ys) (hroom : n + 1 ≤ c) (hfit : n * q + q ≤ cur.length)
    (h : ∀ w1, Hid (Blk w1 g e (splice cur (n * q) ys)) → Keeps (· = g) W w1 → wpList P ops Q rest (a.put o.dst (.slice (some ⟨g, 0, none⟩) (n + 1) c)) w1) :
    wpList P ops Q (o :: rest) a W := by
  obtain ⟨i0, hi, hz⟩ := Option.map_eq_some_iff.1 hsz
  have hr := run_append_room (P := P) W t o.type e i0 ht hi g n c cur.toArray hk ⟨b, 0, none⟩ 1 1 ys (by rw [hz]; omega) (fun j u hu => by
    have := hb.cell j
    rw [hu] at this
    rwa [show (⟨b, 0, none⟩ : Addr).add j = ⟨b, j, none⟩ by unfold Addr.add; split <;> simp_all]) h1 hroom (by rw [hz, hys]; simpa using hfit)
  rw [hz] at hr
  refine wpList_plain hgd fun K hK => ?_
  unfold Oper.wp execOp
  simp only [ho, resolve, invoke, builtin, Sem.run_bind, Sem.run_pure, Result.andThen_ok, List.map_toArray, List.map_cons, List.map_nil, hs, hx, hr]
  refine hK _ _ (h _ ?_ ?_)
  · refine Lib.hid ?_
    show _ = _
    simpa [splice] using setRow_heap W g _ (cur.take (n * q) ++ ys ++ cur.drop (n * q + ys.length)).toArray e _ hk
  · exact ⟨rfl, rfl, rfl, by simp [World.setRow], fun k hk2 hne => setRow_other W g k (cur.take (n * q) ++ ys ++ cur.drop (n * q + ys.length)).toArray hne⟩
end
end Go.Proofs.Ytlcnjdpfijgcdaa

namespace Go.Proofs.Ytlcnjdpfijgcdaa
open Go.RowKit
set_option linter.unusedSimpArgs false
set_option linter.unusedVariables false

theorem size_param : (Try.prog.info? 69).map (·.size) = some 2 := by kernel_rfl
theorem info_paramH : (Try.prog.info? 69).map (fun i => (i.zero, i.size, i.bytes)) = some (some (.agg #[.int .u16 0, .slice none 0 0]), 2, 32) := by kernel_rfl
theorem splice_end {α : Type} (L R ys : List α) (o : Nat) (ho : L.length = o) : splice (L ++ R) o ys = L ++ ys ++ R.drop ys.length := by
  subst ho
  simp [splice, List.drop_append]

set_option maxRecDepth 100000 in
set_option maxHeartbeats 1000000 in
theorem twin1_any (t : Int) (A : Option Addr) (n c : Nat) (body : List Int) (w : World) (r : Rd w .u8 A n body) (l : n ≤ c) (hz : A = none → c = 0) :
    Calls Try.prog 60 #[.agg #[.int .u16 t, .slice A n c]] w fun e w' => ∃ B, e = .returned (.agg #[.int .u16 t, .slice B n n]) ∧ RowG 5 1 w.heap.size w' (.slice B n n) n (body.map (Value.int .u8)) ∧ Below w.heap.size w w' := by
  have hk1 : Blk ((w.alloc (.cells #[.int .u16 t, .slice A n c] 69)).alloc (.cells #[.int .u16 0, .slice none 0 0] 69)) w.heap.size 69 [.int .u16 t, .slice A n c] := (Blk.new w 69 [.int .u16 t, .slice A n c]).alloc _
  have hk2 : Blk ((w.alloc (.cells #[.int .u16 t, .slice A n c] 69)).alloc (.cells #[.int .u16 0, .slice none 0 0] 69)) (w.heap.size + 1) 69 [.int .u16 0, .slice none 0 0] := by
    have := Blk.new (w.alloc (.cells #[.int .u16 t, .slice A n c] 69)) 69 [.int .u16 0, .slice none 0 0]
    rwa [World.size_alloc] at this
  have hB : Below w.heap.size w ((w.alloc (.cells #[.int .u16 t, .slice A n c] 69)).alloc (.cells #[.int .u16 0, .slice none 0 0] 69)) := ((Below.refl _ _).alloc (Nat.le_refl _) _).alloc (by simp) _
  obtain ⟨w2, hw2⟩ : ∃ w2, (w.alloc (.cells #[.int .u16 t, .slice A n c] 69)).alloc (.cells #[.int .u16 0, .slice none 0 0] 69) = w2 := ⟨_, rfl⟩
  rw [hw2] at hk1 hk2 hB
  have HW2 := Lib.hid hw2
  have hcl := clone_any A n c body w2 (r.below hB) l hz
  have HCL := Lib.hid hcl
  have HK1 := Lib.hid hk1
  have HK2 := Lib.hid hk2
  have HB := Lib.hid hB
  have c0 : w2.cell? ⟨w.heap.size, 0, none⟩ = some (.int .u16 t) := hk1.cell 0
  have c1 : w2.cell? ⟨w.heap.size, 1, none⟩ = some (.slice A n c) := hk1.cell 1
  clear hw2 hk1 hk2 hB hcl r
  go_enter Try.func60, Try.ntmps60
  go_wp2_with fail
  rw [HW2.out]
  clear HW2
  obtain ⟨P, hP⟩ : ∃ P, w.heap.size = P := ⟨_, rfl⟩
  have hle0 : P ≤ w2.heap.size := by rw [← hP]; exact HB.out.size
  rw [hP] at HK1 HK2 HB c0 c1 ⊢
  have HP := Lib.hid hP
  clear hP
  go_wp2_with fail
  refine HCL.out.mono ?_; rintro e w3 ⟨B, cb, rfl, hle, hown, hBn, hB3⟩
  have hk3 := HK1.out.below hB3 HK1.out.lt
  have hk4 := HK2.out.below hB3 HK2.out.lt
  have hb3 := HB.out.trans (hB3.mono hle0)
  have hrow : RowG 5 1 P w3 (.slice B n n) n (body.map (Value.int .u8)) := ⟨B, n, cb, rfl, Nat.le_refl _, hle, own_lower hown hle0⟩
  have d0 : w3.cell? ⟨P, 0, none⟩ = some (.int .u16 t) := hk3.cell 0
  have d1 : w3.cell? ⟨P, 1, none⟩ = some (.slice A n c) := hk3.cell 1
  have f1 : w3.frozen? ⟨P, 1, none⟩ = false := hk3.free 1
  have g0 : w3.cell? ⟨P + 1, 0, none⟩ = some (.int .u16 0) := hk4.cell 0
  have g1 : w3.cell? ⟨P + 1, 1, none⟩ = some (.slice none 0 0) := hk4.cell 1
  have g2 : w3.frozen? ⟨P + 1, 0, none⟩ = false := hk4.free 0
  have g3 : w3.frozen? ⟨P + 1, 1, none⟩ = false := hk4.free 1
  have hkf : Blk (((w3.setCell ⟨P, 1, none⟩ (.slice B n n)).setCell ⟨P + 1, 0, none⟩ (.int .u16 t)).setCell ⟨P + 1, 1, none⟩ (.slice B n n)) (P + 1) 69 [.int .u16 t, .slice B n n] :=
    ((hk4.keep (Keeps.set1 w3 ⟨P, 1, none⟩ (.slice B n n)) (by simp)).put 0 (.int .u16 t)).put 1 (.slice B n n)
  have hkk : Keeps (fun i => P ≤ i ∧ (i = P ∨ i = P + 1)) w3 (((w3.setCell ⟨P, 1, none⟩ (.slice B n n)).setCell ⟨P + 1, 0, none⟩ (.int .u16 t)).setCell ⟨P + 1, 1, none⟩ (.slice B n n)) :=
    (((Keeps.refl _ w3).setCell (.inl ⟨Nat.le_refl _, .inl rfl⟩) _).setCell (.inl ⟨Nat.le_succ _, .inr rfl⟩) _).setCell (.inl ⟨Nat.le_succ _, .inr rfl⟩) _
  have hrowf := hrow.keep hkk (fun k hk2 hm => by
    obtain ⟨_, _, cur, h2⟩ := hrow.ty hk2
    rcases hm.2 with rfl | rfl
    · exact absurd (ty_one h2 hk3) (by decide)
    · exact absurd (ty_one h2 hk4) (by decide))
  have hbf := below_keeps hb3 hkk (by rw [HP.out]; exact Nat.le_refl _) (fun i hi => hi.1)
  have HKF := Lib.hid hkf
  have HROW := Lib.hid hrowf
  have HBF := Lib.hid hbf
  have hcp := clip_all B n cb w3 hle
  have HCP := Lib.hid hcp
  clear hk3 hk4 hb3 hrow hcp hle hown hBn hB3 c0 c1 HCL hkf hkk hrowf hbf
  go_wp2_with fail
  refine HCP.out.mono ?_; rintro e w4 ⟨rfl, rfl⟩
  go_wp2_with fail
  refine bodyPost_ret (results_cell_row rfl _ _ (P + 1) _ _ _ _ rfl HKF.out Try.underlying69 rfl (by kernel_rfl)) rfl ?_
  rw [HP.out]
  exact ⟨B, rfl, HROW.out, HBF.out⟩

set_option maxRecDepth 100000 in
set_option maxHeartbeats 2000000 in
theorem twins_any (A : Option Addr) (n c : Nat) (ps : List Piece) (w : World) (hps : Ps w A n ps) (hn : n < 1099511627776) :
    Calls Try.prog 59 #[.slice A n c] w fun e w' => ∃ hs rest, e = .returned (.slice (some ⟨w.heap.size, 0, none⟩) n (n + 1)) ∧ hs.map (·.p) = ps ∧ rest.length = 2 ∧ HdsIn w.heap.size w' hs ∧ Blk w' w.heap.size 69 (hcells hs ++ rest) ∧ Below w.heap.size w w' := by
  have hl := hps.len
  obtain ⟨i0, hi, hzz⟩ := Option.map_eq_some_iff.1 info_paramH
  simp only [Prod.mk.injEq] at hzz
  obtain ⟨hz0, hz1, hz2⟩ := hzz
  obtain ⟨w1, hmk, hown, hg⟩ := run_make_own (P := Try.prog) w w.heap.size 66 69 i0 (.agg #[.int .u16 0, .slice none 0 0]) 2 Try.underlying66 hi hz0 hz1 .i64 .i64 (n + 1) (by rw [hz2]; omega) (by unfold maxLen; omega) (Nat.le_refl _)
  have hB1 : Below w.heap.size w w1 := ⟨hg.os, hg.tape, hg.output, hg.size, fun i hi => hg.block i hi (by simp)⟩
  obtain ⟨G, hG⟩ : ∃ G, w.heap.size = G := ⟨_, rfl⟩
  have hst : ∃ rest, rest.length = (n + 1 - 0) * 2 ∧ Blk w1 G 69 (hcells [] ++ rest) := by
    rcases hown.2 with ⟨e, _⟩ | ⟨g, cap, cur, e, hb, hh, hc, hm, hs, _⟩
    · cases e
    · injection e with e1 _ e3
      injection e1 with e1
      injection e1 with e1 _ _
      subst e1; subst e3
      refine ⟨cur.toList, by simpa using hs, ?_⟩
      rw [hcells_nil, List.nil_append, ← hG]
      simpa [Blk] using hh
  have HST := Lib.hid hst
  have HB := Lib.hid hB1
  have HPS := Lib.hid hps
  have HG := Lib.hid hG
  rw [hG] at hmk
  clear hst hown hg hi hz0 hz1 hz2 hB1 hps hG
  have e1 : ((n + 1 : Nat) : Int) = (n : Int) + 1 := by omega
  rw [e1] at hmk
  go_enter Try.func59, Try.ntmps59
  go_wp2_with fail
  go_loopw [3, 12] (fun t i wr => ∃ (k : Nat) (hs : List Hd) (rest : List Value), k ≤ n ∧ i = .int .i64 k ∧ t = .slice (some ⟨G, 0, none⟩) k (n + 1) ∧ hs.map (·.p) = ps.take k ∧ rest.length = (n + 1 - k) * 2 ∧ HdsIn G wr hs ∧ Blk wr G 69 (hcells hs ++ rest) ∧ Below w.heap.size w wr) (fun _ i _ => n - (intOf i).toNat)
  case atStart =>
    obtain ⟨rest, h1, h2⟩ := HST.out
    exact ⟨0, [], rest, Nat.zero_le _, rfl, rfl, by simp, h1, HdsIn.nil, h2, HB.out⟩
  case round =>
    obtain ⟨k, hs, rest, hk, rfl, rfl, hmp, hrest, hin, hblk, hB⟩ := hrel
    have hsl : hs.length = k := by
      have := congrArg List.length hmp
      rw [List.length_map, List.length_take, hl] at this
      omega
    by_cases hlt : k < n
    · obtain ⟨b, off, rfl, hb, hc⟩ := (HPS.out.below hB).row (by omega)
      obtain ⟨t, body, B1, m1, d1, h1, h2, h3, h4, h5, h6, h7⟩ := hc k hlt
      obtain rfl : body.length = m1 := h5.len
      have htw : ∀ W, Below wr.heap.size wr W → Calls Try.prog 60 #[.agg #[.int .u16 t, .slice B1 body.length d1]] W fun e w' => ∃ B, e = .returned (.agg #[.int .u16 t, .slice B body.length body.length]) ∧ RowG 5 1 W.heap.size w' (.slice B body.length body.length) body.length (body.map (Value.int .u8)) ∧ Below W.heap.size W w' := fun W hW => twin1_any t B1 body.length d1 body W (h5.below hW) h6 h7
      have htk : ps.take (k + 1) = ps.take k ++ [(t, body)] := by
        have := (List.getElem?_eq_some_iff.1 h1)
        rw [List.take_succ_eq_append_getElem this.1, this.2]
      have i0 : (0 : Int) ≤ (k : Int) := by omega
      have i1 : (k : Int) < (n : Int) := by omega
      have HTK := Lib.hid htk
      have HBB := Lib.hid hB
      have HTW := Lib.hid htw
      have HMP := Lib.hid hmp
      have HREST := Lib.hid hrest
      have HIN := Lib.hid hin
      have HBLK := Lib.hid hblk
      have HSL := Lib.hid hsl
      clear htk hB hc hmk htw h5 h1 h7 hmp hrest hin hblk hsl
      go_wp2_with fail
      have HBN := Lib.hid (new_belowB wr (.cells #[.int .u16 t, .slice B1 body.length d1] 69))
      refine (HTW.out _ HBN.out).mono ?_; rintro e w2 ⟨B, rfl, hrow, hB2⟩
      have hBt : Below wr.heap.size wr w2 := HBN.out.trans (hB2.mono HBN.out.size)
      have hkb := HBLK.out.below hBt HBLK.out.lt
      have hfit : k * 2 + 2 ≤ (hcells hs ++ rest).length := by
        rw [List.length_append, hcells_length, HSL.out, HREST.out]; omega
      have hroom : k + 1 ≤ n + 1 := by omega
      have HFIT := Lib.hid hfit
      have HKB : Hid (∀ o, Blk (w2.alloc o) G 69 (hcells hs ++ rest)) := Lib.hid (fun o => hkb.alloc o)
      have HIN2 := Lib.hid (HIN.out.below hBt)
      have HROW := Lib.hid hrow
      have HBT := Lib.hid hBt
      have HROOM := Lib.hid hroom
      clear hrow hB2 hBt hkb hfit hroom HTW
      go_wp2_with (at_builtin; refine append_room_el rfl _ _ 66 69 2 rfl Try.underlying66 size_param G k (n + 1) (hcells hs ++ rest) [.int .u16 t, .slice B body.length body.length] w2.heap.size rfl rfl rfl (by simp [Value.oneCell']) (HKB.out _) (Blk.new w2 69 [.int .u16 t, .slice B body.length body.length]) HROOM.out HFIT.out ?_; intro w3 hb3 hk3; have HK3 := Lib.hid hk3; clear hk3)
      have hb3 := hb3.out
      rw [splice_end (hcells hs) rest _ (k * 2) (by rw [hcells_length, HSL.out])] at hb3
      have HB3 := Lib.hid hb3
      clear hb3
      go_roundw
      case rel =>
        have hk3 := HK3.out
        have hg2 : Blk w2 G 69 (hcells hs ++ rest) := HBLK.out.below HBT.out HBLK.out.lt
        have hin3 : HdsIn G w3 hs := ((HIN2.out.below (new_belowB w2 _)).keepP hk3 (HKB.out _))
        have hr3 : RowG 5 1 G w3 (.slice B body.length body.length) body.length (body.map (Value.int .u8)) := by
          have hle : G ≤ (wr.alloc (.cells #[.int .u16 t, .slice B1 body.length d1] 69)).heap.size := by
            have := HBB.out.size
            have := HG.out
            simp; omega
          have h1 := (HROW.out.lower hle).below (new_belowB w2 (.cells #[.int .u16 t, .slice B body.length body.length] 69))
          refine h1.keep hk3 (fun k hk2 e => ?_)
          subst e
          obtain ⟨_, _, cur, h2⟩ := h1.ty hk2
          exact absurd (ty_one h2 (HKB.out _)) (by decide)
        have hap : ∀ y ∈ hs ++ [], Ap ⟨(t, body), B, body.length⟩ y := fun y hy g hg hy2 => by
          rw [List.append_nil] at hy
          have h1 := HIN.out.blk hy hy2
          have h2 := (HROW.out.ty (k := g) (by simp only at hg; rw [hg]; rfl)).1
          simp at h2; omega
        refine ⟨k + 1, hs ++ [⟨(t, body), B, body.length⟩], rest.drop 2, by omega, by go_num, by go_num, ?_, ?_, ?_, ?_, ?_⟩
        · rw [List.map_append, HMP.out, HTK.out]; rfl
        · rw [List.length_drop, HREST.out]; omega
        · exact HdsIn.mid (l := hs) (r := []) (x := ⟨(t, body), B, body.length⟩) (by rw [List.append_nil]; exact hin3) hr3 hap
        · rw [hcells_append]; exact HB3.out
        · exact below_keeps (HBB.out.trans ((HBT.out.trans (new_belowB w2 _ |>.mono HBT.out.size)).mono HBB.out.size)) hk3 (Nat.le_refl _) (fun i hi => by rw [hi, HG.out]; exact Nat.le_refl _)
      case measure => simp [intOf]; omega
    · obtain rfl : k = n := by omega
      have htps : ps.take k = ps := List.take_of_length_le (by omega)
      rw [htps] at hmp
      have HMP := Lib.hid hmp
      have HREST := Lib.hid hrest
      have HIN := Lib.hid hin
      have HBLK := Lib.hid hblk
      have HBB := Lib.hid hB
      clear hmp hrest hin hblk hsl hB hmk htps
      go_wp2_with fail
      go_ret
      exact ⟨hs, rest, by rw [HG.out]; rfl, HMP.out, by rw [HREST.out]; omega, by rw [HG.out]; exact HIN.out, by rw [HG.out]; exact HBLK.out, HBB.out⟩
end Go.Proofs.Ytlcnjdpfijgcdaa
