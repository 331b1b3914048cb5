/- The walk over the document's behind: bytes, and others behind them. -/
import Derived.Test.YtlcnjdpfijgcdaaGreatDoorRowG
namespace Go.Proofs.YtlcnjdpfijgcdaaGreatDoor
open Go.RowKit
set_option linter.unusedSimpArgs false
set_option linter.unusedVariables false

/-- New bytes in memory of the call's own. -/
def NewB (w : World) (bytes : List Int) (e : Ending) (w' : World) : Prop :=
  ∃ A c m, bytes.length = m ∧ e = .returned (.slice A m c) ∧ Rd w' .u8 A m bytes ∧ (A = none → c = 0) ∧ m ≤ c ∧ Below w.heap.size w w'
theorem rd_own_any {w : World} {base n : Nat} {v : Value} {xs : List Int} (h : w.ownsRow base 5 1 v n (xs.map (Value.int .u8))) (hb : ∀ x ∈ xs, 0 ≤ x ∧ x ≤ 255) (hn : n ≤ 140737488351232) : ∃ A c, v = .slice A n c ∧ Rd w .u8 A n xs ∧ (A = none → c = 0) ∧ n ≤ c := by
  rcases h.2 with ⟨rfl, rfl⟩ | ⟨g, cap, cur, rfl, _, _, hc, _⟩
  · have hx : xs = [] := List.eq_nil_of_length_eq_zero (by have := h.1; simpa using this)
    subst hx
    exact ⟨none, 0, rfl, rd_nil w .u8, fun _ => rfl, Nat.le_refl _⟩
  · exact ⟨_, cap, rfl, rd_own h hb hn, (fun e => by cases e), hc⟩

/-- The same, told closer. -/
def NewO (w : World) (bytes : List Int) (e : Ending) (w' : World) : Prop :=
  ∃ A c m, bytes.length = m ∧ e = .returned (.slice A m c) ∧ w'.ownsRow w.heap.size 5 1 (.slice A m c) m (bytes.map (Value.int .u8)) ∧ Below w.heap.size w w'
theorem NewO.newB {w w' : World} {bytes : List Int} {e : Ending} (h : NewO w bytes e w') (hb : ∀ x ∈ bytes, 0 ≤ x ∧ x ≤ 255) (hn : bytes.length ≤ 140737488351232) : NewB w bytes e w' := by
  obtain ⟨A, c, m, hm, rfl, ho, hB⟩ := h
  obtain ⟨A', c', e, hr, hz, hc⟩ := rd_own_any ho hb (by omega)
  injection e with e1 _ e2
  subst e1; subst e2
  exact ⟨_, _, m, hm, rfl, hr, hz, hc, hB⟩
theorem NewO.before {w w1 w' : World} {bytes : List Int} {e : Ending} (h : NewO w1 bytes e w') (hb : Below w.heap.size w w1) : NewO w bytes e w' := by
  obtain ⟨A, c, m, hm, he, ho, hB⟩ := h
  exact ⟨A, c, m, hm, he, own_lower ho hb.size, hb.trans (hB.mono hb.size)⟩

set_option maxRecDepth 100000 in
set_option maxHeartbeats 1000000 in
theorem behind_own (A0 : Option Addr) (n0 c0 : Nat) (x0 : List Int) (A1 : Option Addr) (n1 c1 : Nat) (x1 : List Int) (w : World) (r0 : Rd w .u8 A0 n0 x0) (z0 : A0 = none → c0 = 0) (r1 : Rd w .u8 A1 n1 x1) (z1 : A1 = none → c1 = 0) (hn : n0 + n1 ≤ 70368744177664) :
    Calls Tryz.prog 144 #[.slice A0 n0 c0, .slice A1 n1 c1] w (NewO w (x0 ++ x1)) := by
  have h0 := r0.len
  have h1 := r1.len
  have hb0 := rd_bytes r0
  have hb1 := rd_bytes r1
  have R0 := Lib.hid r0
  have R1 := Lib.hid r1
  clear r0 r1
  go_enter Tryz.func144, Tryz.ntmps144
  go_wp2_with (first
    | (at_builtin; refine append_bytes w.heap.size rfl _ _ rfl v1 (0 + n0) ([] ++ x0) rfl A1 n1 c1 x1 rfl HR1.out z1 HO1.out HB1.out.size (by omega) ?_
       intro v2 w2 ho2 hg2 hat2
       have HG2 := Lib.hid hg2
       clear hg2 hat2)
    | (at_builtin; refine append_bytes w.heap.size rfl _ _ rfl (.slice none 0 0) 0 [] rfl A0 n0 c0 x0 rfl R0.out z0 (own_nil _ _ _ _) (Nat.le_refl _) (by omega) ?_
       intro v1 w1 HO1 hg1 hat1
       have HB1 := Lib.hid (grown_nil hg1)
       have HR1 := Lib.hid (R1.out.below HB1.out)
       clear hg1 hat1))
  have hB2 : Below w.heap.size w w2 := grown_below HB1.out HG2.out HO1.out (Nat.le_refl _)
  obtain ⟨A, c, rfl, hc, _⟩ := own_slice ho2.out
  have ho3 := ho2.out
  rw [List.nil_append] at ho3
  have hlen : (x0 ++ x1).length = 0 + n0 + n1 := by simp [h0, h1]
  go_ret
  exact ⟨A, c, _, hlen, rfl, ho3, hB2⟩
theorem behind_any (A0 : Option Addr) (n0 c0 : Nat) (x0 : List Int) (A1 : Option Addr) (n1 c1 : Nat) (x1 : List Int) (w : World) (r0 : Rd w .u8 A0 n0 x0) (z0 : A0 = none → c0 = 0) (r1 : Rd w .u8 A1 n1 x1) (z1 : A1 = none → c1 = 0) (hn : n0 + n1 ≤ 70368744177664) :
    Calls Tryz.prog 144 #[.slice A0 n0 c0, .slice A1 n1 c1] w (NewB w (x0 ++ x1)) :=
  (behind_own A0 n0 c0 x0 A1 n1 c1 x1 w r0 z0 r1 z1 hn).mono fun e w' h => h.newB (fun x hx => by
    rcases List.mem_append.1 hx with h | h
    · exact rd_bytes r0 x h
    · exact rd_bytes r1 x h) (by have := r0.len; have := r1.len; simp; omega)
end Go.Proofs.YtlcnjdpfijgcdaaGreatDoor
