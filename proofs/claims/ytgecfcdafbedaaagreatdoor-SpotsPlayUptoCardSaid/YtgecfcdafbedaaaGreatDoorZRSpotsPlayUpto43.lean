/- Lists that a Book may hold, put behind one another; Acts with a set of spots: a list of them in memory; the parameter opened. -/
import Derived.Test.YtgecfcdafbedaaaGreatDoorZRSpotsPlayUpto32
import Derived.Test.YtgecfcdafbedaaaGreatDoorZRSpotsPlayUpto3
import Derived.Deep.Slices
import Derived.Deep.MidRow
namespace Go.Proofs.YtgecfcdafbedaaaGreatDoor
open Go.RowKit
set_option linter.unusedSimpArgs false
set_option linter.unusedVariables false

theorem fine_nil : Fine [] := ⟨fun i j a b h => by simp at h, fun i h hi => by simp at hi, fun i h hi => by simp at hi⟩
theorem fine_one {h : Hb} (hn : 1 ≤ h.n ∧ h.n ≤ 30000) (hl : h.len ≤ 274877906944) : Fine [h] := by
  have one : ∀ {i : Nat} {x : Hb}, [h][i]? = some x → i = 0 ∧ x = h := fun {i} {x} hi => by
    rcases i with _ | i
    · exact ⟨rfl, by simpa using hi.symm⟩
    · simp at hi
  refine ⟨fun i j a b hi hj hne => ?_, fun i x hi => ?_, fun i x hi => ?_⟩
  · have := (one hi).1; have := (one hj).1; omega
  · rw [(one hi).2]; exact hn
  · rw [(one hi).2]; exact hl
theorem fine_append {l m : List Hb} (h1 : Fine l) (h2 : Fine m) (hd : ∀ a ∈ l, ∀ b ∈ m, ∀ k, a.l.ownBlock = some k → b.l.ownBlock ≠ some k) : Fine (l ++ m) := by
  have at_ : ∀ {i : Nat} {x : Hb}, (l ++ m)[i]? = some x → (i < l.length ∧ l[i]? = some x) ∨ (l.length ≤ i ∧ m[i - l.length]? = some x) := fun {i} {x} hi => by
    rcases Nat.lt_or_ge i l.length with h | h
    · rw [List.getElem?_append_left h] at hi; exact .inl ⟨h, hi⟩
    · rw [List.getElem?_append_right h] at hi; exact .inr ⟨h, hi⟩
  refine ⟨fun i j a b hi hj hne k hk hk2 => ?_, fun i x hi => ?_, fun i x hi => ?_⟩
  · rcases at_ hi with ⟨h3, h4⟩ | ⟨h3, h4⟩ <;> rcases at_ hj with ⟨h5, h6⟩ | ⟨h5, h6⟩
    · exact h1.unlike i j a b h4 h6 hne k hk hk2
    · exact hd a (List.mem_of_getElem? h4) b (List.mem_of_getElem? h6) k hk hk2
    · exact hd b (List.mem_of_getElem? h6) a (List.mem_of_getElem? h4) k hk2 hk
    · exact h2.unlike _ _ a b h4 h6 (by omega) k hk hk2
  · rcases at_ hi with ⟨_, h4⟩ | ⟨_, h4⟩
    · exact h1.n _ x h4
    · exact h2.n _ x h4
  · rcases at_ hi with ⟨_, h4⟩ | ⟨_, h4⟩
    · exact h1.len _ x h4
    · exact h2.len _ x h4
end Go.Proofs.YtgecfcdafbedaaaGreatDoor

namespace Go.Proofs.YtgecfcdafbedaaaGreatDoor
open Go.RowKit Go.ChangeShapes Go.WideShapes
set_option linter.unusedSimpArgs false
set_option linter.unusedVariables false

structure Sa where
  kind : Int
  A : Option Addr
  n : Nat
  c : Nat
  xs : List Int
  spot : Int
  sum : List Int
  bytes : Int
def saC (x : Sa) : List Value := .int .u8 x.kind :: .slice x.A x.n x.c :: .int .u32 x.spot :: (x.sum.map (Value.int .u8) ++ [.int .i64 x.bytes])
structure OkSa (w : World) (x : Sa) : Prop where
  kind : 0 ≤ x.kind ∧ x.kind ≤ 255
  rd : Rd w .u32 x.A x.n x.xs
  le : x.n ≤ x.c
  cap : x.c ≤ 35184372087808
  spot : 0 ≤ x.spot ∧ x.spot ≤ 4294967295
  sum : x.sum.length = 32
  bytes : -9223372036854775808 ≤ x.bytes ∧ x.bytes ≤ 9223372036854775807
theorem saC_length {x : Sa} (h : x.sum.length = 32) : (saC x).length = 36 := by simp [saC, h]
theorem OkSa.below {w w' : World} {x : Sa} (h : OkSa w x) (hB : Below w.heap.size w w') : OkSa w' x := ⟨h.kind, h.rd.below hB, h.le, h.cap, h.spot, h.sum, h.bytes⟩
/-- Acts in memory. -/
structure SActs (w : World) (A : Option Addr) (n : Nat) (xs : List Sa) : Prop where
  len : xs.length = n
  ok : ∀ x ∈ xs, OkSa w x
  row : 0 < n → ∃ b off, A = some ⟨b, off, none⟩ ∧ b < w.heap.size ∧ ∀ j x, xs[j]? = some x → w.rangeAt b (off + j * 36) (saC x)
theorem SActs.below {w w' : World} {A : Option Addr} {n : Nat} {xs : List Sa} (h : SActs w A n xs) (hB : Below w.heap.size w w') : SActs w' A n xs :=
  ⟨h.len, fun x hx => (h.ok x hx).below hB, fun h0 => by
    obtain ⟨b, off, e, hb, hr⟩ := h.row h0
    exact ⟨b, off, e, Nat.lt_of_lt_of_le hb hB.size, fun j x hx i v hv => (hB.cell (p := ⟨b, off + j * 36 + i, none⟩) hb).trans (hr j x hx i v hv)⟩⟩
/-- The parts of an act in memory. -/
theorem sa_at {w : World} {b o : Nat} {x : Sa} (h : w.rangeAt b o (saC x)) (ht : x.sum.length = 32) :
    w.cell? ⟨b, o, none⟩ = some (.int .u8 x.kind) ∧ w.cell? ⟨b, o + 1, none⟩ = some (.slice x.A x.n x.c) ∧ w.cell? ⟨b, o + 2, none⟩ = some (.int .u32 x.spot) ∧ w.rangeAt b (o + 3) (x.sum.map (Value.int .u8)) ∧ w.cell? ⟨b, o + 35, none⟩ = some (.int .i64 x.bytes) := by
  refine ⟨?_, ?_, ?_, fun j v hv => ?_, ?_⟩
  · have := h 0 (.int .u8 x.kind) rfl
    rwa [Nat.add_zero] at this
  · exact h 1 _ rfl
  · exact h 2 _ rfl
  · have hj := (List.getElem?_eq_some_iff.1 hv).1
    have := h (j + 3) v (by rw [saC, List.getElem?_cons_succ, List.getElem?_cons_succ, List.getElem?_cons_succ, List.getElem?_append_left hj]; exact hv)
    rwa [show o + (j + 3) = o + 3 + j by omega] at this
  · exact h 35 _ (by rw [saC, List.getElem?_cons_succ, List.getElem?_cons_succ, List.getElem?_cons_succ, List.getElem?_append_right (by simp [ht])]; simp [ht])
theorem two_partsS (cs : List Value) (a n k : Nat) (h : a + n = k) : (cs.drop a).take n ++ cs.drop k = cs.drop a := by
  subst h
  have := List.take_append_drop n (cs.drop a)
  rw [List.drop_drop] at this
  exact this
set_option maxRecDepth 100000 in
theorem sa_parts (cs : List Value) (h : cs.length = 36) : (cs.drop 0).take 1 ++ ((cs.drop 1).take 1 ++ ((cs.drop 2).take 1 ++ ((cs.drop 3).take 32 ++ (cs.drop 35).take 1))) = cs := by
  have a1 : (cs.drop 35).take 1 = cs.drop 35 := List.take_of_length_le (by simp [h])
  rw [a1, two_partsS cs 3 32 35 rfl, two_partsS cs 2 1 3 rfl, two_partsS cs 1 1 2 rfl, two_partsS cs 0 1 1 rfl]
  rfl
section
variable {H : Type} {enc : TypeId × Value → H} {w : World} {held : Bool} {fuel : Nat} {cs : List Value} {x : DataW H × List MemPlace}
/-- A list of spots, and how far it reaches. -/
theorem open_slC {t e : TypeId} {P : Program} {k : IntKind} (ht : P.underlying t = some (.slice e)) (he : P.underlying e = some (.int k)) (hc : P.cellsOf e = 1) (hb : 0 < P.bytesOf e)
    (h : DataW.trod enc P w 0 (fun _ => true) held fuel t cs = some x) (hx : Light P t x.1) : ∃ A n c xs, cs = [.slice A n c] ∧ Sl w k A n c xs ∧ c * P.bytesOf e ≤ 140737488351232 := by
  obtain ⟨A, n, c, xs, he1, hsl⟩ := open_sl ht he hc hb h hx
  refine ⟨A, n, c, xs, he1, hsl, ?_⟩
  rcases open_ints ht he hc h with ⟨h1, h2⟩ | ⟨a, len, cap, zs, h1, _, hl, hm, hz, rfl, hcell, hw⟩
  · rw [he1] at h1
    injection h1 with h1
    injection h1 with h1 h3 h4
    subst h4
    omega
  · rw [he1] at h1
    injection h1 with h1
    injection h1 with h1 h3 h4
    subst h4
    simp only [if_true] at hz
    have := List.all_eq_true.1 hx ((((zs.take len).length + (zs.drop len).length)) * P.bytesOf e) (by simp [DataW.weights, ht, lits])
    simp only [List.length_take, List.length_drop, hz, decide_eq_true_eq] at this
    rwa [show min len c + (c - len) = c by omega] at this
set_option maxRecDepth 100000 in
theorem open_sa (h : DataW.trod enc Tryz.prog w 0 (fun _ => true) held fuel 54 cs = some x) (hx : Light Tryz.prog 54 x.1) : ∃ a, cs = saC a ∧ OkSa w a := by
  obtain ⟨hl, m, hp⟩ := open_struct Tryz.underlying54 h
  obtain ⟨y0, hy0, -⟩ := hp 0 _ rfl
  obtain ⟨y1, hy1, L1⟩ := hp 1 _ rfl
  obtain ⟨y2, hy2, -⟩ := hp 2 _ rfl
  obtain ⟨y3, hy3, -⟩ := hp 3 _ rfl
  obtain ⟨y4, hy4, -⟩ := hp 4 _ rfl
  simp only at hy0 hy1 hy2 hy3 hy4 L1
  obtain ⟨k, ek, wk⟩ := cell_int Tryz.underlying5 hy0
  obtain ⟨A, n, c, xs, el, hsl, hcap⟩ := open_slC Tryz.underlying50 Tryz.underlying23 (by kernel_rfl) (by rw [show Tryz.prog.bytesOf 23 = 4 from by kernel_rfl]; omega) hy1 (L1 hx)
  obtain ⟨s, es, ws⟩ := cell_int Tryz.underlying23 hy2
  obtain ⟨tl, et, htl, htw⟩ := open_array_ints Tryz.underlying52 Tryz.underlying5 (by kernel_rfl) (by kernel_rfl) hy3
  obtain ⟨bt, eb, wb⟩ := cell_int Tryz.underlying3 hy4
  rw [show Tryz.prog.cellsOf 54 = 36 by kernel_rfl] at hl
  rw [show Tryz.prog.cellsOf 5 = 1 by kernel_rfl] at ek
  rw [show Tryz.prog.cellsOf 50 = 1 by kernel_rfl] at el
  rw [show Tryz.prog.cellsOf 23 = 1 by kernel_rfl] at es
  rw [show Tryz.prog.cellsOf 52 = 32 by kernel_rfl] at et
  rw [show Tryz.prog.cellsOf 3 = 1 by kernel_rfl] at eb
  rw [show Tryz.prog.bytesOf 23 = 4 from by kernel_rfl] at hcap
  have e := sa_parts cs hl
  rw [ek, el, es, et, eb] at e
  exact ⟨⟨k, A, n, c, xs, s, tl, bt⟩, e.symm, ⟨wf_bounds_u8 wk, hsl.rd, hsl.le, by simp only; omega, wf_bounds_u32 ws, htl, wf_bounds_i64 wb⟩⟩
theorem list_ofS {α : Type} {p : Nat → α → Prop} : ∀ (n : Nat), (∀ i, i < n → ∃ x, p i x) → ∃ l : List α, l.length = n ∧ ∀ i x, l[i]? = some x → p i x
  | 0, _ => ⟨[], rfl, fun i x h => by simp at h⟩
  | n + 1, h => by
    obtain ⟨l, hl, hp⟩ := list_ofS n (fun i hi => h i (by omega))
    obtain ⟨x, hx⟩ := h n (by omega)
    refine ⟨l ++ [x], by simp [hl], fun i y hy => ?_⟩
    rcases Nat.lt_or_ge i n with hi | hi
    · rw [List.getElem?_append_left (by omega)] at hy
      exact hp i y hy
    · have hi2 : i < n + 1 := by
        have := (List.getElem?_eq_some_iff.1 hy).1
        simpa [hl] using this
      obtain rfl : i = n := by omega
      rw [List.getElem?_append_right (by omega), hl] at hy
      simp at hy
      subst hy
      exact hx
theorem open_sacts (h : DataW.trod enc Tryz.prog w 0 (fun _ => true) held fuel 24 cs = some x) (hx : Light Tryz.prog 24 x.1) : ∃ A n c xs, cs = [.slice A n c] ∧ SActs w A n xs ∧ n ≤ maxLen ∧ n * 80 ≤ 140737488351232 := by
  rcases Go.Deep.open_slice Tryz.underlying24 h with ⟨rfl, _⟩ | ⟨a, len, cap, m, n, D, Pl, rfl, _, hl, hm, hmm, rfl, hx2⟩
  · exact ⟨none, 0, 0, [], rfl, ⟨rfl, by simp, fun h => absurd h (by omega)⟩, by omega, by omega⟩
  · rw [show Tryz.prog.cellsOf 54 = 36 by kernel_rfl] at hx2
    simp only [if_true] at hmm
    have hL : ∀ i, i < len → Light Tryz.prog 54 (D i) := fun i hi => List.all_eq_true.2 fun k hk => List.all_eq_true.1 hx k (by
      simp only [DataW.weights, Tryz.underlying24]
      refine List.mem_cons_of_mem _ (List.mem_append.2 (.inl ?_))
      exact weights_all (i := i) (d := D i) (by simp [hi]) k hk)
    have h80 := List.all_eq_true.1 hx ((((List.range len).map D).length + ((List.range (m - len)).map fun j => D (len + j)).length) * Tryz.prog.bytesOf 54) (by
      simp only [DataW.weights, Tryz.underlying24]
      exact List.mem_cons_self ..)
    rw [show Tryz.prog.bytesOf 54 = 80 from by kernel_rfl] at h80
    simp only [List.length_map, List.length_range, decide_eq_true_eq, reachBytes] at h80
    obtain ⟨xs, hxl, hxp⟩ := list_ofS (p := fun i y => OkSa w y ∧ ∀ j, j < 36 → w.cell? ((a.add (i * 36)).add j) = (saC y)[j]?) len (fun i hi => by
      obtain ⟨cs', h1, h2⟩ := hx2 i (by omega)
      obtain ⟨y, rfl, hy⟩ := open_sa h2 (hL i hi)
      obtain ⟨_, _, h3⟩ := World.cells?_some h1
      exact ⟨y, hy, h3⟩)
    refine ⟨some a, len, cap, xs, rfl, ⟨hxl, fun y hy => ?_, fun h0 => ?_⟩, by omega, by omega⟩
    · obtain ⟨i, hi, rfl⟩ := List.getElem_of_mem hy
      exact (hxp i _ (List.getElem?_eq_getElem hi)).1
    · obtain ⟨b, off, sp⟩ := a
      have hs : sp = none := by
        obtain ⟨_, h3⟩ := hxp 0 xs[0] (List.getElem?_eq_getElem (by omega))
        have h4 := h3 0 (by omega)
        rw [saC] at h4
        have := World.cell?_spot h4
        simpa [Addr.add] using this
      subst hs
      refine ⟨b, off, rfl, ?_, fun j y hj i v hv => ?_⟩
      · obtain ⟨_, h3⟩ := hxp 0 xs[0] (List.getElem?_eq_getElem (by omega))
        have h4 := h3 0 (by omega)
        rw [saC, Addr.add_mid, Addr.add_mid] at h4
        exact World.block_lt_of_cell? _ _ h4
      · obtain ⟨hy, h3⟩ := hxp j y hj
        have hi : i < 36 := by
          have := (List.getElem?_eq_some_iff.1 hv).1
          rwa [saC_length hy.sum] at this
        have h4 := h3 i hi
        rw [Addr.add_mid, Addr.add_mid] at h4
        rw [h4, hv]
end
end Go.Proofs.YtgecfcdafbedaaaGreatDoor
