/- A Book of lists of bytes in memory; what is kept of rows of bytes; append of one byte, told closer. -/
import Derived.Test.YtigcpjjmafpjhaaGreatDoorKMat
import Derived.Test.YtigcpjjmafpjhaaGreatDoorPart
import Derived.Deep.RegionHeld3
import Derived.Deep.DrawnRows
namespace Go.Proofs.YtigcpjjmafpjhaaGreatDoor
open Go.RowKit
set_option linter.unusedSimpArgs false
set_option linter.unusedVariables false

/-- A list of bytes that a Book holds. -/
structure Hb where
  A : Option Addr
  len : Nat
  cap : Nat
  A2 : Option Addr
  len2 : Nat
  cap2 : Nat
  n : Nat
def Hb.l (h : Hb) : Value := .slice h.A h.len h.cap
def Hb.long (h : Hb) : Value := .slice h.A2 h.len2 h.cap2
def hbC (h : Hb) : List Value := [h.l, h.long, .int .i64 (h.n : Int)]
def flatH (hs : List Hb) : List Value := (hs.map hbC).flatten
theorem flatH_snoc (hs : List Hb) (h : Hb) : flatH (hs ++ [h]) = flatH hs ++ hbC h := by simp [flatH]
theorem flatH_at : ∀ (hs : List Hb) (j k : Nat) (h : Hb), hs[j]? = some h → k < 3 → (flatH hs)[3 * j + k]? = (hbC h)[k]?
  | [], j, k, h, hj, _ => by simp at hj
  | x :: hs, 0, k, h, hj, hk => by
    simp only [List.getElem?_cons_zero, Option.some.injEq] at hj
    subst hj
    rw [flatH, List.map_cons, List.flatten_cons, List.getElem?_append_left (by simp [hbC]; omega)]
    congr 1; omega
  | x :: hs, j + 1, k, h, hj, hk => by
    rw [flatH, List.map_cons, List.flatten_cons, List.getElem?_append_right (by simp [hbC]; omega)]
    rw [show 3 * (j + 1) + k - (hbC x).length = 3 * j + k by simp [hbC]; omega]
    exact flatH_at hs j k h (by simpa using hj) hk
theorem flatH_len (hs : List Hb) : (flatH hs).length = hs.length * 3 := by
  induction hs with
  | nil => rfl
  | cons x hs ih => rw [flatH, List.map_cons, List.flatten_cons, List.length_append]; unfold flatH at ih; rw [ih]; simp [hbC]; omega
def bookC (n : Nat) (S : Value) : List Value := [.int .i64 (n : Int), S, .slice none 0 0, .slice none 0 0, .slice none 0 0, .slice none 0 0, .slice none 0 0, .slice none 0 0, .slice none 0 0, .slice none 0 0, .slice none 0 0, .slice none 0 0, .slice none 0 0, .slice none 0 0, .slice none 0 0, .slice none 0 0]
/-- The Book in memory. -/
structure BookAt (base : Nat) (w : World) (B : Nat) (hs : List Hb) : Prop where
  box : ∃ S, Blk w B 52 (bookC hs.length S) ∧ w.ownsRow base 70 3 S hs.length (flatH hs)
  lo : base ≤ B
  few : hs.length ≤ 100
/-- A row of bytes of the call's own. -/
def RowIs (base : Nat) (w : World) (h : Hb) (xs : List Int) : Prop := w.ownsRow base 5 1 h.l h.len (xs.map (Value.int .u8))
def marks (h : Hb) (k : Nat) : List Int := List.replicate k (h.n : Int)

section
variable {base : Nat} {w w' w1 w2 : World} {B : Nat} {hs : List Hb} {h : Hb} {xs : List Int}
theorem BookAt.lt (hb : BookAt base w B hs) : B < w.heap.size := by obtain ⟨S, h1, _⟩ := hb.box; exact h1.lt
/-- What leaves the Book's own blocks as they are leaves the Book. -/
theorem BookAt.keep {M : Nat → Prop} (hb : BookAt base w B hs) (hk : Keeps M w w') (hB : ¬ M B) (hM : ∀ i cur, w.heap[i]? = some (.cells cur 70 (0, 0)) → ¬ M i) : BookAt base w' B hs := by
  obtain ⟨S, h1, h2⟩ := hb.box
  refine ⟨⟨S, h1.keep hk hB, hk.own h2 (fun k hk' => ?_)⟩, hb.lo, hb.few⟩
  rcases h2.2 with ⟨rfl, _⟩ | ⟨g, cap, cur, rfl, _, hh, _⟩
  · simp [Value.ownBlock] at hk'
  · have : g = k := by simpa [Value.ownBlock] using hk'
    subst this
    exact hM _ _ hh
theorem BookAt.below (hb : BookAt base w B hs) (hB : Below w.heap.size w w') : BookAt base w' B hs :=
  hb.keep (Keeps.of_below (M := fun _ => False) hB) (fun h => h) (fun _ _ _ h => h)
theorem RowIs.keep {M : Nat → Prop} (hr : RowIs base w h xs) (hk : Keeps M w w') (hM : ∀ k, h.l.ownBlock = some k → ¬ M k) : RowIs base w' h xs := hk.own hr hM
theorem RowIs.below (hr : RowIs base w h xs) (hB : Below w.heap.size w w') : RowIs base w' h xs := hr.keep (Keeps.of_below (M := fun _ => False) hB) (fun _ _ h => h)
theorem RowIs.len (hr : RowIs base w h xs) : xs.length = h.len := by have := hr.1; simpa using this
/-- A row's block holds bytes. -/
theorem RowIs.u8 (hr : RowIs base w h xs) {k : Nat} (hk : h.l.ownBlock = some k) : base ≤ k ∧ k < w.heap.size ∧ ∃ cur, w.heap[k]? = some (.cells cur 5 (0, 0)) := by
  rcases hr.2 with ⟨h1, _⟩ | ⟨g, cap, cur, h1, hb, hh, _⟩
  · rw [h1] at hk; simp [Value.ownBlock] at hk
  · rw [h1] at hk
    have : g = k := by simpa [Value.ownBlock] using hk
    subst this
    exact ⟨hb, (Array.getElem?_eq_some_iff.1 hh).1, cur, hh⟩
/-- The row's cells, and that they may be written. -/
theorem RowIs.at_ (hr : RowIs base w h xs) (h0 : 0 < h.len) : ∃ g, h.A = some ⟨g, 0, none⟩ ∧ h.len ≤ h.cap ∧ h.l.ownBlock = some g ∧ base ≤ g ∧ g < w.heap.size ∧ (∀ j, j < h.len → w.cell? ⟨g, j, none⟩ = some (.int .u8 (xs[j]?.getD 0))) ∧ ∀ j, w.frozen? ⟨g, j, none⟩ = false := by
  have hl := hr.len
  obtain ⟨_, A, c, he, hc, _, hx⟩ := own_ints hr
  have he' : Value.slice h.A h.len h.cap = .slice A h.len c := he
  injection he' with e1 _ e2
  subst e2
  obtain ⟨g, hA, hb, hg, hcell⟩ := hx h0
  subst hA
  rcases hr.2 with ⟨h1, h2⟩ | ⟨g', cap', cur, h1, _, hh, _⟩
  · omega
  · have h1' : Value.slice h.A h.len h.cap = .slice (some ⟨g', 0, none⟩) h.len cap' := h1
    injection h1' with e3 _ _
    rw [e1] at e3
    injection e3 with e3
    injection e3 with e3
    subst e3
    refine ⟨g, e1, hc, by show (Value.slice h.A h.len h.cap).ownBlock = _; rw [e1]; rfl, hb, hg, hcell, fun j => ?_⟩
    exact frozen_of_row w g j _ _ hh
theorem RowIs.put {g k : Nat} {y : Int} (hr : RowIs base w h xs) (hA : h.A = some ⟨g, 0, none⟩) (hk : k < h.len) : RowIs base (w.setCell ⟨g, k, none⟩ (.int .u8 y)) h (xs.set k y) := by
  have hr' : w.ownsRow base 5 1 (.slice (some ⟨g, 0, none⟩) h.len h.cap) h.len (xs.map (Value.int .u8)) := by rw [← hA]; exact hr
  have := (hr'.stored k (.int .u8 y)).1
  unfold RowIs Hb.l
  rw [hA, List.map_set]
  exact this
theorem hbC_one (h : Hb) : ∀ v ∈ hbC h, v.oneCell' = true := by
  intro v hv
  simp only [hbC, Hb.l, Hb.long, List.mem_cons, List.not_mem_nil, or_false] at hv
  rcases hv with rfl | rfl | rfl <;> rfl
/-- The Book's row of a list. -/
theorem BookAt.at_ (hb : BookAt base w B hs) {j : Nat} (hj : hs[j]? = some h) : ∃ g c, Blk w B 52 (bookC hs.length (.slice (some ⟨g, 0, none⟩) hs.length c)) ∧ hs.length ≤ c ∧ g < w.heap.size ∧ base ≤ g ∧ (∃ cur, w.heap[g]? = some (.cells cur 70 (0, 0))) ∧ ∀ o, o = j * 3 → w.rangeAt g o (hbC h) := by
  obtain ⟨S, h1, h2⟩ := hb.box
  have hjl : j < hs.length := (List.getElem?_eq_some_iff.1 hj).1
  rcases h2.2 with ⟨_, h0⟩ | ⟨g, cap, cur, rfl, hbg, hh, hc, hm, hcs, ht⟩
  · omega
  · refine ⟨g, cap, h1, hc, (Array.getElem?_eq_some_iff.1 hh).1, hbg, ⟨cur, hh⟩, fun o ho k u hu => ?_⟩
    have hk : k < 3 := by
      have := (List.getElem?_eq_some_iff.1 hu).1
      simpa [hbC] using this
    have e1 := flatH_at hs j k h hj hk
    rw [hu] at e1
    have e2 := h2.cells (g := g) rfl (3 * j + k) u e1
    rw [Addr.add_mid, Nat.zero_add] at e2
    subst ho
    rwa [show 3 * j + k = j * 3 + k by omega] at e2
/-- The own blocks are unlike. -/
def Unlike (hs : List Hb) : Prop := ∀ (i j : Nat) (a b : Hb), hs[i]? = some a → hs[j]? = some b → i ≠ j → ∀ k, a.l.ownBlock = some k → b.l.ownBlock ≠ some k
end

theorem mark_any (n : Nat) (w : World) (hn : n ≤ 255) : Calls Tryz.prog 75 #[.int .i64 (n : Int)] w fun e w' => e = .returned (.int .u8 (n : Int)) ∧ w = w' := by
  have hw : IntKind.u8.wrap (n : Int) = n := IntWalk.u8_in _ (by omega)
  go_enter Tryz.func75, Tryz.ntmps75
  go_wp2_with fail
  go_ret
  exact ⟨rfl, rfl⟩
theorem isb_any (n : Nat) (w : World) (hn : n ≤ 255) : Calls Tryz.prog 90 #[.int .u8 (n : Int), .int .i64 (n : Int)] w fun e w' => e = .returned (.bool true) ∧ w = w' := by
  have hw : IntKind.u8.wrap (n : Int) = n := IntWalk.u8_in _ (by omega)
  go_enter Tryz.func90, Tryz.ntmps90
  go_wp2_with fail
  go_ret
  exact ⟨rfl, rfl⟩

section
variable {ops : Array Oper} {rest : List Oper} {o : Oper} {a : Act} {Q : Exit → Act → World → Prop}
/-- append of one byte: in its own block, or in a new one, all old ones as they were. -/
theorem append_byte {W : World} (base : Nat) (hgd : o.guard = none) (s x : Operand)
    (ho : o.op = .call { callee := .builtin .append, args := #[s, x], argTypes := #[22, 22] })
    (v : Value) (n : Nat) (xs : List Int) (y : Int) (hs : a.eval s = v) (hx : a.eval x = .slice (some ⟨W.heap.size, 0, none⟩) 1 1)
    (HO : W.ownsRow base 5 1 v n (xs.map (Value.int .u8))) (hbase : base ≤ W.heap.size) (hl : n + 1 ≤ 70368744177664)
    (h : ∀ v1 w1, w1.ownsRow base 5 1 v1 (n + 1) ((xs ++ [y]).map (Value.int .u8)) → ((v1.ownBlock = v.ownBlock ∧ v.ownBlock ≠ none ∧ Keeps (fun i => v.ownBlock = some i) W w1) ∨ (∃ b, v1.ownBlock = some b ∧ W.heap.size ≤ b ∧ Below W.heap.size W w1)) → wpList Tryz.prog ops Q rest (a.put o.dst v1) w1) :
    wpList Tryz.prog ops Q (o :: rest) a (W.alloc (.cells #[.int .u8 y] 5)) := by
  obtain ⟨i0, hi, hzz⟩ := Option.map_eq_some_iff.1 info_u8n
  simp only [Prod.mk.injEq] at hzz
  obtain ⟨hz0, hz1, hz2⟩ := hzz
  have hnews := World.news_of_block (cs := [Value.int .u8 y].toArray) (t := 5) (fr := (0, 0)) (heap_alloc_new W (.cells [Value.int .u8 y].toArray 5))
  obtain ⟨v', w', hr, h2, h3, _, h5⟩ := run_append_own_at (P := Tryz.prog) (W.alloc (.cells #[.int .u8 y] 5)) base 22 o.type 5 i0 (.int .u8 0) 1 1 Tryz.underlying22 hi hz0 hz1 hz2 rfl (by omega) v n _ (HO.alloc _) ⟨W.heap.size, 0, none⟩ 1 1 [.int .u8 y] rfl hnews (by simp [Value.oneCell']) (by unfold maxLen; omega) (by omega) (by simp; omega)
  have hB1 : Below W.heap.size W (W.alloc (.cells #[.int .u8 y] 5)) := (Below.refl _ _).alloc (Nat.le_refl _) _
  have hcase : (v'.ownBlock = v.ownBlock ∧ v.ownBlock ≠ none ∧ Keeps (fun i => v.ownBlock = some i) W w') ∨ (∃ b, v'.ownBlock = some b ∧ W.heap.size ≤ b ∧ Below W.heap.size W w') := by
    have hnew : ∀ g : Nat, v.ownBlock = some g → g < W.heap.size := fun g hg => (own_base HO g hg).2
    rcases HO.2 with ⟨hv, hn0⟩ | ⟨g, cap, cur, hv, hb, hh, hc, hm, hcs, htk⟩
    · -- nil: a new block
      subst hv
      rcases h5 with h5 | h5
      · exfalso
        rcases h2.2 with ⟨_, h6⟩ | ⟨g', c', cur', h6, _⟩
        · omega
        · rw [h6] at h5; simp [Value.ownBlock] at h5
      · refine .inr ⟨_, h5, by simp, hB1.trans ?_⟩
        exact ⟨h3.os, h3.tape, h3.output, h3.size, fun i hi => h3.block i (Nat.lt_of_lt_of_le hi hB1.size) (by simp [Value.ownBlock])⟩
    · by_cases hroom : n + 1 ≤ cap
      · rcases h5 with h5 | h5
        · refine .inl ⟨h5, by rw [hv]; simp [Value.ownBlock], ?_⟩
          exact Keeps.grown ((Keeps.refl _ W).alloc _) h3 (fun k hk => .inl hk)
        · exfalso
          have hst := run_append_room (P := Tryz.prog) (W.alloc (.cells #[.int .u8 y] 5)) 22 o.type 5 i0 Tryz.underlying22 hi g n cap cur ((Below.heap_alloc W _ g (Array.getElem?_eq_some_iff.1 hh).1).trans hh) ⟨W.heap.size, 0, none⟩ 1 1 [.int .u8 y] (by rw [hz1]; rfl) hnews (by simp [Value.oneCell']) hroom (by rw [hz1, hcs]; simp; omega)
          rw [← hv] at hst
          rw [hr] at hst
          injection hst with e1 e2
          rw [e1] at h5
          have h6 : g = (W.alloc (.cells #[.int .u8 y] 5)).heap.size := by simpa [Value.ownBlock] using h5
          have := (Array.getElem?_eq_some_iff.1 hh).1
          simp at h6
          omega
      · have holds : ∀ j u, (xs.map (Value.int .u8))[j]? = some u → (W.alloc (.cells #[.int .u8 y] 5)).cell? ((⟨g, 0, none⟩ : Addr).add j) = some u := fun j u hu => (HO.alloc _).cells (g := g) (by rw [hv]; rfl) j u hu
        have hgr := run_append_grow (P := Tryz.prog) (W.alloc (.cells #[.int .u8 y] 5)) 22 o.type 5 i0 (.int .u8 0) Tryz.underlying22 hi hz0 ⟨g, 0, none⟩ n cap (xs.map (Value.int .u8)) (by have := HO.1; rw [hz1]; simpa using this) holds ⟨W.heap.size, 0, none⟩ 1 1 [.int .u8 y] (by rw [hz1]; rfl) hnews (by omega) (by omega) (by rw [hz2]; exact growslice_fits (by omega) (by omega))
        rw [← hv] at hgr
        rw [hr] at hgr
        injection hgr with e1 e2
        refine .inr ⟨(W.alloc (.cells #[.int .u8 y] 5)).heap.size, by rw [e1]; rfl, by simp, ?_⟩
        rw [e2]
        exact hB1.trans ⟨rfl, rfl, rfl, by simp, fun i hi => Below.heap_alloc (W.alloc (.cells #[.int .u8 y] 5)).drew _ i (by have : i < W.heap.size := hi; simp; omega)⟩
  have hmap : xs.map (Value.int .u8) ++ [.int .u8 y] = (xs ++ [y]).map (Value.int .u8) := by simp
  rw [hmap] at h2
  refine wpList_plain hgd fun K hK => ?_
  unfold Oper.wp execOp
  simp only [ho, resolve, invoke, builtin, Sem.run_bind, Sem.run_pure, Result.andThen_ok, List.map_toArray, List.map_cons, List.map_nil, hs, hx, hr]
  exact hK _ _ (h v' w' h2 hcase)
end
end Go.Proofs.YtigcpjjmafpjhaaGreatDoor
