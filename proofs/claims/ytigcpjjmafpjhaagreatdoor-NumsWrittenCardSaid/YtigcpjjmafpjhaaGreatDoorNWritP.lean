/- What the walk over NumsWritten stands on: new bytes in one form; six lists of bytes in a Book. -/
import Derived.Test.YtigcpjjmafpjhaaGreatDoorNReadP
import Derived.Test.YtigcpjjmafpjhaaGreatDoorNRefPut
import Derived.Test.YtigcpjjmafpjhaaGreatDoorNPutBK
namespace Go.Proofs.YtigcpjjmafpjhaaGreatDoor
open Go.RowKit
set_option linter.unusedSimpArgs false
set_option linter.unusedVariables false

/-- New bytes, which a Book may hold. -/
def OwnB (w : World) (bytes : List Int) (e : Ending) (w' : World) : Prop :=
  ∃ A c m, bytes.length = m ∧ e = .returned (.slice A m c) ∧ RowW w.heap.size w' (.slice A m c) m bytes ∧ Below w.heap.size w w'
theorem Made.own {w w' : World} {bytes : List Int} {e : Ending} (h : Made w bytes e w') (hl : bytes.length ≤ 140737488351232) : OwnB w bytes e w' := by
  obtain ⟨g, hg, rfl, hk, hB⟩ := h
  exact ⟨_, _, _, rfl, rfl, RowW.of_own (own_of_blk hk hg (by unfold maxLen; omega)), hB⟩
theorem MadeInL.own {w w' : World} {bytes : List Int} {e : Ending} (h : MadeInL w bytes e w') : OwnB w bytes e w' := by
  obtain ⟨g, cells, hg, rfl, hk, ht, hm, hB⟩ := h
  have hle : bytes.length ≤ cells.length := by
    have := congrArg List.length ht
    rw [List.length_take, List.length_map] at this
    omega
  refine ⟨_, _, _, rfl, rfl, ⟨_, bytes.length, cells.length, rfl, Nat.le_refl _, hle, by simp, .inr ⟨g, cells.length, _, rfl, hg, hk, hle, hm, by simp, ?_⟩⟩, hB⟩
  rw [Nat.mul_one]
  simpa using ht
theorem RowW.rd {base : Nat} {w : World} {A : Option Addr} {n c : Nat} {xs : List Int} (h : RowW base w (.slice A n c) n xs) (hb : ∀ x ∈ xs, 0 ≤ x ∧ x ≤ 255) (hn : n ≤ 140737488351232) : Rd w .u8 A n xs := by
  obtain ⟨A', c1, c', e, _, _, ho⟩ := h
  injection e with e1 _ _
  subst e1
  obtain ⟨A2, c2, e2, hr, _, _⟩ := rd_own_any ho hb hn
  injection e2 with e3 _ _
  subst e3
  exact hr
def RowsAre (base : Nat) (w : World) (hs : List Hb) : Prop := ∀ (i : Nat) (h : Hb), hs[i]? = some h → ∃ xs, RowIs base w h xs
theorem RowsAre.nil {base : Nat} {w : World} : RowsAre base w [] := fun i h hi => by simp at hi
theorem RowsAre.cons {base : Nat} {w : World} {h : Hb} {hs : List Hb} {xs : List Int} (h1 : RowIs base w h xs) (h2 : RowsAre base w hs) : RowsAre base w (h :: hs) := fun i h3 hi => by
  rcases i with _ | i
  · obtain rfl := Option.some.inj hi
    exact ⟨xs, h1⟩
  · exact h2 i h3 (by simpa using hi)
theorem RowsAre.keepBook {base B : Nat} {w w' : World} {hs ks : List Hb} (hr : RowsAre base w hs) (hb : BookAt base w B ks) (hk : Keeps (ByBook base B w) w w') : RowsAre base w' hs := fun i h hi => by
  obtain ⟨xs, h1⟩ := hr i h hi
  exact ⟨xs, h1.keepBook hb hk⟩
theorem RowsAre.below {base : Nat} {w w' : World} {hs : List Hb} (hr : RowsAre base w hs) (hB : Below w.heap.size w w') : RowsAre base w' hs := fun i h hi => by
  obtain ⟨xs, h1⟩ := hr i h hi
  exact ⟨xs, h1.below hB⟩
/-- Where a list's own block lies. -/
def LiesIn (v : Value) (lo hi : Nat) : Prop := ∀ k, v.ownBlock = some k → lo ≤ k ∧ k < hi
/-- Lists each of which lies behind the one ahead of it. -/
def RisingLe : Nat → List Hb → Prop
  | _, [] => True
  | lo, h :: hs => ∃ hi, lo ≤ hi ∧ LiesIn h.l lo hi ∧ RisingLe hi hs
theorem RisingLe.above : ∀ {hs : List Hb} {lo : Nat}, RisingLe lo hs → ∀ h ∈ hs, ∀ k, h.l.ownBlock = some k → lo ≤ k
  | [], _, _, h, hh, _, _ => by simp at hh
  | a :: hs, lo, hr, h, hh, k, hk => by
    obtain ⟨hi, h1, h2, h3⟩ := hr
    rcases List.mem_cons.1 hh with rfl | hh
    · exact (h2 k hk).1
    · exact Nat.le_trans h1 (RisingLe.above h3 h hh k hk)
theorem RisingLe.pair : ∀ {hs : List Hb} {lo : Nat}, RisingLe lo hs → hs.Pairwise fun a b => ∀ k, a.l.ownBlock = some k → b.l.ownBlock ≠ some k
  | [], _, _ => List.Pairwise.nil
  | a :: hs, lo, hr => by
    obtain ⟨hi, h1, h2, h3⟩ := hr
    refine List.pairwise_cons.2 ⟨fun b hb k hk hk2 => ?_, RisingLe.pair h3⟩
    have := (h2 k hk).2
    have := RisingLe.above h3 b hb k hk2
    omega
theorem RisingLe.unlike {hs : List Hb} {lo : Nat} (h : RisingLe lo hs) : Unlike hs := unlike_of_pairwise h.pair
theorem RowW.lies {base : Nat} {w : World} {v : Value} {n : Nat} {xs : List Int} (h : RowW base w v n xs) : LiesIn v base w.heap.size := fun k hk => h.based k hk
theorem LiesIn.wide {v : Value} {lo hi lo' hi' : Nat} (h : LiesIn v lo hi) (h1 : lo' ≤ lo) (h2 : hi ≤ hi') : LiesIn v lo' hi' := fun k hk => by have := h k hk; omega
/-- The same lists, their numbers and lengths as a Book wants them. -/
def Fit (hs : List Hb) : Prop := ∀ (i : Nat) (h : Hb), hs[i]? = some h → (1 ≤ h.n ∧ h.n ≤ 255) ∧ h.len ≤ 1099511627776
theorem Fit.nil : Fit [] := fun i h hi => by simp at hi
theorem Fit.cons {h : Hb} {hs : List Hb} (h1 : 1 ≤ h.n ∧ h.n ≤ 255) (h2 : h.len ≤ 1099511627776) (h3 : Fit hs) : Fit (h :: hs) := fun i h4 hi => by
  rcases i with _ | i
  · obtain rfl := Option.some.inj hi
    exact ⟨h1, h2⟩
  · exact h3 i h4 (by simpa using hi)
theorem flat4_length (a b c d : Int) : (flat [d, c, b, a] 8).length = 32 := by simp [flat, be_length]
theorem flat4_byte (a b c d : Int) : ∀ x ∈ flat [d, c, b, a] 8, 0 ≤ x ∧ x ≤ 255 := fun x hx => by
  obtain ⟨y, _, h⟩ := List.mem_flatMap.1 hx
  exact be_byte 8 y x h
theorem putMany_le (k : Int) : putMany k ≤ 8 := by unfold putMany; omega
end Go.Proofs.YtigcpjjmafpjhaaGreatDoor
