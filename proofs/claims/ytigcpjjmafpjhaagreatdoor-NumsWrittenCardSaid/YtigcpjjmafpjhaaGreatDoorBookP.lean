/- A Book of lists of bytes in memory; what is kept of rows of bytes; append of one byte, told closer. -/
import Derived.Test.YtigcpjjmafpjhaaGreatDoorKMat
import Derived.Test.YtigcpjjmafpjhaaGreatDoorPart
import Derived.Deep.RegionHeld3
import Derived.Deep.DrawnRows
import Derived.ArgAppend
namespace Go.Proofs.YtigcpjjmafpjhaaGreatDoor
open Go.RowKit
set_option linter.unusedSimpArgs false
set_option linter.unusedVariables false

/-- A list of bytes that a Book holds. -/
structure Hb where
  A : Option Addr
  len : Nat
  cap : Nat
  A2 : Option Addr
  len2 : Nat
  cap2 : Nat
  n : Nat
def Hb.l (h : Hb) : Value := .slice h.A h.len h.cap
def Hb.long (h : Hb) : Value := .slice h.A2 h.len2 h.cap2
def hbC (h : Hb) : List Value := [h.l, h.long, .int .i64 (h.n : Int)]
def flatH (hs : List Hb) : List Value := (hs.map hbC).flatten
theorem flatH_snoc (hs : List Hb) (h : Hb) : flatH (hs ++ [h]) = flatH hs ++ hbC h := by simp [flatH]
theorem flatH_at : ∀ (hs : List Hb) (j k : Nat) (h : Hb), hs[j]? = some h → k < 3 → (flatH hs)[3 * j + k]? = (hbC h)[k]?
  | [], j, k, h, hj, _ => by simp at hj
  | x :: hs, 0, k, h, hj, hk => by
    simp only [List.getElem?_cons_zero, Option.some.injEq] at hj
    subst hj
    rw [flatH, List.map_cons, List.flatten_cons, List.getElem?_append_left (by simp [hbC]; omega)]
    congr 1; omega
  | x :: hs, j + 1, k, h, hj, hk => by
    rw [flatH, List.map_cons, List.flatten_cons, List.getElem?_append_right (by simp [hbC]; omega)]
    rw [show 3 * (j + 1) + k - (hbC x).length = 3 * j + k by simp [hbC]; omega]
    exact flatH_at hs j k h (by simpa using hj) hk
theorem flatH_len (hs : List Hb) : (flatH hs).length = hs.length * 3 := by
  induction hs with
  | nil => rfl
  | cons x hs ih => rw [flatH, List.map_cons, List.flatten_cons, List.length_append]; unfold flatH at ih; rw [ih]; simp [hbC]; omega
def bookC (n : Nat) (S : Value) : List Value := [.int .i64 (n : Int), S, .slice none 0 0, .slice none 0 0, .slice none 0 0, .slice none 0 0, .slice none 0 0, .slice none 0 0, .slice none 0 0, .slice none 0 0, .slice none 0 0, .slice none 0 0, .slice none 0 0, .slice none 0 0, .slice none 0 0, .slice none 0 0]
/-- The Book in memory. -/
structure BookAt (base : Nat) (w : World) (B : Nat) (hs : List Hb) : Prop where
  box : ∃ S, Blk w B 52 (bookC hs.length S) ∧ w.ownsRow base 70 3 S hs.length (flatH hs)
  lo : base ≤ B
  few : hs.length ≤ 100
/-- A row of bytes of the call's own, of whose block the slice may reach less than there is. -/
def RowW (base : Nat) (w : World) (v : Value) (n : Nat) (xs : List Int) : Prop :=
  ∃ A c c', v = .slice A n c ∧ n ≤ c ∧ c ≤ c' ∧ w.ownsRow base 5 1 (.slice A n c') n (xs.map (Value.int .u8))
def RowIs (base : Nat) (w : World) (h : Hb) (xs : List Int) : Prop := RowW base w h.l h.len xs
theorem cap_block (A : Option Addr) (n c n' c' : Nat) : (Value.slice A n c).ownBlock = (Value.slice A n' c').ownBlock := by cases A <;> rfl
section
variable {base : Nat} {w w' : World} {v : Value} {n : Nat} {xs : List Int}
theorem RowW.of_own (h : w.ownsRow base 5 1 v n (xs.map (Value.int .u8))) : RowW base w v n xs := by
  obtain ⟨A, c, rfl, hc, -⟩ := own_slice h
  exact ⟨A, c, c, rfl, hc, Nat.le_refl _, h⟩
theorem RowW.keep {M : Nat → Prop} (hr : RowW base w v n xs) (hk : Keeps M w w') (hM : ∀ k, v.ownBlock = some k → ¬ M k) : RowW base w' v n xs := by
  obtain ⟨A, c, c', rfl, h1, h2, h3⟩ := hr
  exact ⟨A, c, c', rfl, h1, h2, hk.own h3 (fun k hk' => hM k (by rw [cap_block A n c n c']; exact hk'))⟩
theorem RowW.slice (hr : RowW base w v n xs) : ∃ A c, v = .slice A n c ∧ n ≤ c := by
  obtain ⟨A, c, c', rfl, h1, _, _⟩ := hr
  exact ⟨A, c, rfl, h1⟩
theorem RowW.based (hr : RowW base w v n xs) (k : Nat) (hk : v.ownBlock = some k) : base ≤ k ∧ k < w.heap.size := by
  obtain ⟨A, c, c', rfl, h1, h2, h3⟩ := hr
  exact own_base h3 k (by rw [cap_block A n c' n c]; exact hk)
theorem RowW.lower {base' : Nat} (hr : RowW base w v n xs) (hb : base' ≤ base) : RowW base' w v n xs := by
  obtain ⟨A, c, c', rfl, h1, h2, h3⟩ := hr
  refine ⟨A, c, c', rfl, h1, h2, h3.1, ?_⟩
  rcases h3.2 with h4 | ⟨g, cap, cur, h4, h5, h6⟩
  · exact .inl h4
  · exact .inr ⟨g, cap, cur, h4, Nat.le_trans hb h5, h6⟩
theorem RowW.u8 (hr : RowW base w v n xs) {k : Nat} (hk : v.ownBlock = some k) : base ≤ k ∧ k < w.heap.size ∧ ∃ cur, w.heap[k]? = some (.cells cur 5 (0, 0)) := by
  obtain ⟨A, c, c', rfl, _, _, h⟩ := hr
  rw [cap_block A n c n c'] at hk
  rcases h.2 with ⟨h1, _⟩ | ⟨g, cap, cur, h1, hb, hh, _⟩
  · rw [h1] at hk; simp [Value.ownBlock] at hk
  · rw [h1] at hk
    have : g = k := by simpa [Value.ownBlock] using hk
    subst this
    exact ⟨hb, (Array.getElem?_eq_some_iff.1 hh).1, cur, hh⟩
theorem RowW.type_ne {t : TypeId} {g : Nat} {cur : Array Value} {fr : Nat × Nat} (hr : RowW base w v n xs) (hg : w.heap[g]? = some (.cells cur t fr)) (hne : 5 ≠ t) : v.ownBlock ≠ some g := by
  intro hk
  obtain ⟨_, _, cur2, h2⟩ := hr.u8 hk
  rw [hg] at h2
  injection h2 with h2
  injection h2 with _ h2 _
  exact hne h2.symm
theorem RowW.ints (hr : RowW base w v n xs) : xs.length = n ∧ ∃ A c, v = .slice A n c ∧ n ≤ c ∧ n ≤ c ∧ (0 < n → ∃ g, A = some ⟨g, 0, none⟩ ∧ base ≤ g ∧ g < w.heap.size ∧ ∀ j, j < n → w.cell? ⟨g, j, none⟩ = some (.int .u8 (xs[j]?.getD 0))) := by
  obtain ⟨A, c, c', rfl, h1, h2, h3⟩ := hr
  obtain ⟨hl, A', c2, e, _, _, hx⟩ := own_ints h3
  injection e with e _ _
  subst e
  exact ⟨hl, A, c, rfl, h1, h1, hx⟩
end
def marks (h : Hb) (k : Nat) : List Int := List.replicate k (h.n : Int)

section
variable {base : Nat} {w w' w1 w2 : World} {B : Nat} {hs : List Hb} {h : Hb} {xs : List Int}
theorem BookAt.lt (hb : BookAt base w B hs) : B < w.heap.size := by obtain ⟨S, h1, _⟩ := hb.box; exact h1.lt
/-- What leaves the Book's own blocks as they are leaves the Book. -/
theorem BookAt.keep {M : Nat → Prop} (hb : BookAt base w B hs) (hk : Keeps M w w') (hB : ¬ M B) (hM : ∀ i cur, w.heap[i]? = some (.cells cur 70 (0, 0)) → ¬ M i) : BookAt base w' B hs := by
  obtain ⟨S, h1, h2⟩ := hb.box
  refine ⟨⟨S, h1.keep hk hB, hk.own h2 (fun k hk' => ?_)⟩, hb.lo, hb.few⟩
  rcases h2.2 with ⟨rfl, _⟩ | ⟨g, cap, cur, rfl, _, hh, _⟩
  · simp [Value.ownBlock] at hk'
  · have : g = k := by simpa [Value.ownBlock] using hk'
    subst this
    exact hM _ _ hh
theorem BookAt.below (hb : BookAt base w B hs) (hB : Below w.heap.size w w') : BookAt base w' B hs :=
  hb.keep (Keeps.of_below (M := fun _ => False) hB) (fun h => h) (fun _ _ _ h => h)
theorem RowIs.keep {M : Nat → Prop} (hr : RowIs base w h xs) (hk : Keeps M w w') (hM : ∀ k, h.l.ownBlock = some k → ¬ M k) : RowIs base w' h xs := RowW.keep hr hk hM
theorem RowIs.below (hr : RowIs base w h xs) (hB : Below w.heap.size w w') : RowIs base w' h xs := hr.keep (Keeps.of_below (M := fun _ => False) hB) (fun _ _ h => h)
theorem RowIs.len (hr : RowIs base w h xs) : xs.length = h.len := (RowW.ints hr).1
/-- A row's block holds bytes. -/
theorem RowIs.u8 (hr : RowIs base w h xs) {k : Nat} (hk : h.l.ownBlock = some k) : base ≤ k ∧ k < w.heap.size ∧ ∃ cur, w.heap[k]? = some (.cells cur 5 (0, 0)) := RowW.u8 hr hk
/-- The row's cells, and that they may be written. -/
theorem RowIs.at_ (hr : RowIs base w h xs) (h0 : 0 < h.len) : ∃ g, h.A = some ⟨g, 0, none⟩ ∧ h.len ≤ h.cap ∧ h.l.ownBlock = some g ∧ base ≤ g ∧ g < w.heap.size ∧ (∀ j, j < h.len → w.cell? ⟨g, j, none⟩ = some (.int .u8 (xs[j]?.getD 0))) ∧ ∀ j, w.frozen? ⟨g, j, none⟩ = false := by
  obtain ⟨_, A, c, he, hc, _, hx⟩ := RowW.ints hr
  have he' : Value.slice h.A h.len h.cap = .slice A h.len c := he
  injection he' with e1 _ e2
  subst e2
  obtain ⟨g, hA, hb, hg, hcell⟩ := hx h0
  have hob : h.l.ownBlock = some g := by show (Value.slice h.A h.len h.cap).ownBlock = _; rw [e1, hA]; rfl
  obtain ⟨_, _, cur, hh⟩ := RowW.u8 hr hob
  exact ⟨g, e1.trans hA, hc, hob, hb, hg, hcell, fun j => frozen_of_row w g j _ _ hh⟩
theorem RowIs.put {g k : Nat} {y : Int} (hr : RowIs base w h xs) (hA : h.A = some ⟨g, 0, none⟩) (hk : k < h.len) : RowIs base (w.setCell ⟨g, k, none⟩ (.int .u8 y)) h (xs.set k y) := by
  obtain ⟨A, c, c', he, hnc, hcc, h3⟩ := hr
  have he' : Value.slice h.A h.len h.cap = .slice A h.len c := he
  injection he' with e1 _ e2
  subst e2
  rw [← e1, hA] at h3
  have := (h3.stored k (.int .u8 y)).1
  refine ⟨h.A, h.cap, c', rfl, hnc, hcc, ?_⟩
  rw [hA, List.map_set]
  exact this
theorem hbC_one (h : Hb) : ∀ v ∈ hbC h, v.oneCell' = true := by
  intro v hv
  simp only [hbC, Hb.l, Hb.long, List.mem_cons, List.not_mem_nil, or_false] at hv
  rcases hv with rfl | rfl | rfl <;> rfl
/-- The Book's row of a list. -/
theorem BookAt.at_ (hb : BookAt base w B hs) {j : Nat} (hj : hs[j]? = some h) : ∃ g c, Blk w B 52 (bookC hs.length (.slice (some ⟨g, 0, none⟩) hs.length c)) ∧ hs.length ≤ c ∧ g < w.heap.size ∧ base ≤ g ∧ (∃ cur, w.heap[g]? = some (.cells cur 70 (0, 0))) ∧ ∀ o, o = j * 3 → w.rangeAt g o (hbC h) := by
  obtain ⟨S, h1, h2⟩ := hb.box
  have hjl : j < hs.length := (List.getElem?_eq_some_iff.1 hj).1
  rcases h2.2 with ⟨_, h0⟩ | ⟨g, cap, cur, rfl, hbg, hh, hc, hm, hcs, ht⟩
  · omega
  · refine ⟨g, cap, h1, hc, (Array.getElem?_eq_some_iff.1 hh).1, hbg, ⟨cur, hh⟩, fun o ho k u hu => ?_⟩
    have hk : k < 3 := by
      have := (List.getElem?_eq_some_iff.1 hu).1
      simpa [hbC] using this
    have e1 := flatH_at hs j k h hj hk
    rw [hu] at e1
    have e2 := h2.cells (g := g) rfl (3 * j + k) u e1
    rw [Addr.add_mid, Nat.zero_add] at e2
    subst ho
    rwa [show 3 * j + k = j * 3 + k by omega] at e2
/-- The own blocks are unlike. -/
def Unlike (hs : List Hb) : Prop := ∀ (i j : Nat) (a b : Hb), hs[i]? = some a → hs[j]? = some b → i ≠ j → ∀ k, a.l.ownBlock = some k → b.l.ownBlock ≠ some k
end

theorem mark_any (n : Nat) (w : World) (hn : n ≤ 255) : Calls Tryz.prog 75 #[.int .i64 (n : Int)] w fun e w' => e = .returned (.int .u8 (n : Int)) ∧ w = w' := by
  have hw : IntKind.u8.wrap (n : Int) = n := IntWalk.u8_in _ (by omega)
  go_enter Tryz.func75, Tryz.ntmps75
  go_wp2_with fail
  go_ret
  exact ⟨rfl, rfl⟩
theorem isb_any (n : Nat) (w : World) (hn : n ≤ 255) : Calls Tryz.prog 90 #[.int .u8 (n : Int), .int .i64 (n : Int)] w fun e w' => e = .returned (.bool true) ∧ w = w' := by
  have hw : IntKind.u8.wrap (n : Int) = n := IntWalk.u8_in _ (by omega)
  go_enter Tryz.func90, Tryz.ntmps90
  go_wp2_with fail
  go_ret
  exact ⟨rfl, rfl⟩

section
variable {ops : Array Oper} {rest : List Oper} {o : Oper} {a : Act} {Q : Exit → Act → World → Prop}
/-- append of one byte: in its own block, or in a new one, all old ones as they were. -/
theorem append_byte {W : World} (base : Nat) (hgd : o.guard = none) (s x : Operand)
    (ho : o.op = .call { callee := .builtin .append, args := #[s, x], argTypes := #[22, 22] })
    (A : Option Addr) (n c : Nat) (xs : List Int) (y : Int) (hs : a.eval s = .slice A n c) (hx : a.eval x = .slice (some ⟨W.heap.size, 0, none⟩) 1 1)
    (HO : RowW base W (.slice A n c) n xs) (hbase : base ≤ W.heap.size) (hl : n + 1 ≤ 70368744177664)
    (h : ∀ v1 w1, RowW base w1 v1 (n + 1) (xs ++ [y]) → ((v1.ownBlock = (Value.slice A n c).ownBlock ∧ (Value.slice A n c).ownBlock ≠ none ∧ Keeps (fun i => (Value.slice A n c).ownBlock = some i) W w1) ∨ (∃ b, v1.ownBlock = some b ∧ W.heap.size ≤ b ∧ Below W.heap.size W w1)) → wpList Tryz.prog ops Q rest (a.put o.dst v1) w1) :
    wpList Tryz.prog ops Q (o :: rest) a (W.alloc (.cells #[.int .u8 y] 5)) := by
  obtain ⟨i0, hi, hzz⟩ := Option.map_eq_some_iff.1 info_u8n
  simp only [Prod.mk.injEq] at hzz
  obtain ⟨hz0, hz1, hz2⟩ := hzz
  have hnews := World.news_of_block (cs := [Value.int .u8 y].toArray) (t := 5) (fr := (0, 0)) (heap_alloc_new W (.cells [Value.int .u8 y].toArray 5))
  have hB1 : Below W.heap.size W (W.alloc (.cells #[.int .u8 y] 5)) := (Below.refl _ _).alloc (Nat.le_refl _) _
  have hmap : xs.map (Value.int .u8) ++ [.int .u8 y] = (xs ++ [y]).map (Value.int .u8) := by simp
  have key : ∃ v' w', (Builtin.append_ #[22, 22] o.type #[.slice A n c, .slice (some ⟨W.heap.size, 0, none⟩) 1 1]).run Tryz.prog (W.alloc (.cells #[.int .u8 y] 5)) = .ok v' w' ∧ RowW base w' v' (n + 1) (xs ++ [y]) ∧
      ((v'.ownBlock = (Value.slice A n c).ownBlock ∧ (Value.slice A n c).ownBlock ≠ none ∧ Keeps (fun i => (Value.slice A n c).ownBlock = some i) W w') ∨ (∃ b, v'.ownBlock = some b ∧ W.heap.size ≤ b ∧ Below W.heap.size W w')) := by
    obtain ⟨A', c1, c', e, hnc, hcc, hown⟩ := HO
    injection e with e1 _ e2
    subst e1; subst e2
    rcases hown.2 with ⟨hv, hn0⟩ | ⟨g, cap, cur, hv, hb, hh, hc, hm, hcs, htk⟩
    · injection hv with e1 e2 e3
      subst e1; subst e2; subst e3
      obtain rfl : c = 0 := by omega
      obtain ⟨v', w', hr, h2, h3, _, h5⟩ := run_append_own_at (P := Tryz.prog) (W.alloc (.cells #[.int .u8 y] 5)) base 22 o.type 5 i0 (.int .u8 0) 1 1 Tryz.underlying22 hi hz0 hz1 hz2 rfl (by omega) (.slice none 0 0) 0 _ (hown.alloc _) ⟨W.heap.size, 0, none⟩ 1 1 [.int .u8 y] rfl hnews (by simp [Value.oneCell']) (by unfold maxLen; omega) (by omega) (by simp; omega)
      rw [hmap] at h2
      refine ⟨v', w', hr, RowW.of_own h2, ?_⟩
      rcases h5 with h5 | h5
      · exfalso
        rcases h2.2 with ⟨_, h6⟩ | ⟨g', c', cur', h6, _⟩
        · omega
        · rw [h6] at h5; simp [Value.ownBlock] at h5
      · refine .inr ⟨_, h5, by simp, hB1.trans ?_⟩
        exact ⟨h3.os, h3.tape, h3.output, h3.size, fun i hi => h3.block i (Nat.lt_of_lt_of_le hi hB1.size) (by simp [Value.ownBlock])⟩
    · injection hv with e1 _ e3
      subst e1; subst e3
      have hh' : (W.alloc (.cells #[.int .u8 y] 5)).heap[g]? = some (.cells cur 5 (0, 0)) := (Below.heap_alloc W _ g (Array.getElem?_eq_some_iff.1 hh).1).trans hh
      by_cases hroom : n + 1 ≤ c
      · have hst := run_append_room (P := Tryz.prog) (W.alloc (.cells #[.int .u8 y] 5)) 22 o.type 5 i0 Tryz.underlying22 hi g n c cur hh' ⟨W.heap.size, 0, none⟩ 1 1 [.int .u8 y] (by rw [hz1]; rfl) hnews (by simp [Value.oneCell']) hroom (by rw [hz1, hcs]; simp; omega)
        have hst2 := run_append_room (P := Tryz.prog) (W.alloc (.cells #[.int .u8 y] 5)) 22 o.type 5 i0 Tryz.underlying22 hi g n c' cur hh' ⟨W.heap.size, 0, none⟩ 1 1 [.int .u8 y] (by rw [hz1]; rfl) hnews (by simp [Value.oneCell']) (by omega) (by rw [hz1, hcs]; simp; omega)
        obtain ⟨v', w', hr, h2, h3, _, h5⟩ := run_append_own_at (P := Tryz.prog) (W.alloc (.cells #[.int .u8 y] 5)) base 22 o.type 5 i0 (.int .u8 0) 1 1 Tryz.underlying22 hi hz0 hz1 hz2 rfl (by omega) (.slice (some ⟨g, 0, none⟩) n c') n _ (hown.alloc _) ⟨W.heap.size, 0, none⟩ 1 1 [.int .u8 y] rfl hnews (by simp [Value.oneCell']) (by unfold maxLen; omega) (by omega) (by simp; omega)
        rw [hr] at hst2
        injection hst2 with e1 e2
        rw [← e2] at hst
        rw [hmap, e1] at h2
        exact ⟨_, _, hst, ⟨_, c, c', rfl, hroom, hcc, h2⟩, .inl ⟨rfl, by simp [Value.ownBlock], Keeps.grown ((Keeps.refl _ W).alloc _) h3 (fun k hk => .inl hk)⟩⟩
      · have holds : ∀ j u, (xs.map (Value.int .u8))[j]? = some u → (W.alloc (.cells #[.int .u8 y] 5)).cell? ((⟨g, 0, none⟩ : Addr).add j) = some u := fun j u hu => (hown.alloc _).cells (g := g) rfl j u hu
        obtain ⟨v', w', hr, h2, h3⟩ := run_append_arg_grows (P := Tryz.prog) (W.alloc (.cells #[.int .u8 y] 5)) 22 o.type 5 i0 (.int .u8 0) 1 1 Tryz.underlying22 hi hz0 hz1 hz2 rfl (by omega) ⟨g, 0, none⟩ n c (xs.map (Value.int .u8)) (by have := hown.1; simpa using this) holds ⟨W.heap.size, 0, none⟩ 1 1 [.int .u8 y] rfl hnews (by omega) (by unfold maxLen; omega) (by omega)
        rw [hmap] at h2
        obtain ⟨g2, c2, rfl, hc2, hg2, hlt2⟩ := own_some h2 (by omega)
        refine ⟨_, _, hr, (RowW.of_own h2).lower (Nat.le_trans hbase hB1.size), .inr ⟨g2, rfl, Nat.le_trans hB1.size hg2, hB1.trans ?_⟩⟩
        exact ⟨h3.os, h3.tape, h3.output, h3.size, fun i hi => h3.block i (Nat.lt_of_lt_of_le hi hB1.size) (by simp)⟩
  obtain ⟨v', w', hr, h2, hcase⟩ := key
  refine wpList_plain hgd fun K hK => ?_
  unfold Oper.wp execOp
  simp only [ho, resolve, invoke, builtin, Sem.run_bind, Sem.run_pure, Result.andThen_ok, List.map_toArray, List.map_cons, List.map_nil, hs, hx, hr]
  exact hK _ _ (h v' w' h2 hcase)
end
end Go.Proofs.YtigcpjjmafpjhaaGreatDoor
