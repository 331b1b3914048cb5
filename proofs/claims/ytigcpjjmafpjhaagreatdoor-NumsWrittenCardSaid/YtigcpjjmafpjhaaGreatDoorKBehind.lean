/- The walk over the document's behind: bytes, and others behind them. -/
import Derived.Test.YtigcpjjmafpjhaaGreatDoorKMat
namespace Go.Proofs.YtigcpjjmafpjhaaGreatDoor
open Go.RowKit
set_option linter.unusedSimpArgs false
set_option linter.unusedVariables false

/-- New bytes in memory of the call's own. -/
def NewB (w : World) (bytes : List Int) (e : Ending) (w' : World) : Prop :=
  ∃ A c m, bytes.length = m ∧ e = .returned (.slice A m c) ∧ Rd w' .u8 A m bytes ∧ (A = none → c = 0) ∧ m ≤ c ∧ Below w.heap.size w w'
theorem rd_own_any {w : World} {base n : Nat} {v : Value} {xs : List Int} (h : w.ownsRow base 5 1 v n (xs.map (Value.int .u8))) (hb : ∀ x ∈ xs, 0 ≤ x ∧ x ≤ 255) (hn : n ≤ 140737488351232) : ∃ A c, v = .slice A n c ∧ Rd w .u8 A n xs ∧ (A = none → c = 0) ∧ n ≤ c := by
  rcases h.2 with ⟨rfl, rfl⟩ | ⟨g, cap, cur, rfl, _, _, hc, _⟩
  · have hx : xs = [] := List.eq_nil_of_length_eq_zero (by have := h.1; simpa using this)
    subst hx
    exact ⟨none, 0, rfl, rd_nil w .u8, fun _ => rfl, Nat.le_refl _⟩
  · exact ⟨_, cap, rfl, rd_own h hb hn, (fun e => by cases e), hc⟩

set_option maxRecDepth 100000 in
set_option maxHeartbeats 1000000 in
theorem behind_any (A0 : Option Addr) (n0 c0 : Nat) (x0 : List Int) (A1 : Option Addr) (n1 c1 : Nat) (x1 : List Int) (w : World) (r0 : Rd w .u8 A0 n0 x0) (z0 : A0 = none → c0 = 0) (r1 : Rd w .u8 A1 n1 x1) (z1 : A1 = none → c1 = 0) (hn : n0 + n1 ≤ 70368744177664) :
    Calls Tryz.prog 24 #[.slice A0 n0 c0, .slice A1 n1 c1] w (NewB w (x0 ++ x1)) := by
  have h0 := r0.len
  have h1 := r1.len
  have hb0 := rd_bytes r0
  have hb1 := rd_bytes r1
  have R0 := Lib.hid r0
  have R1 := Lib.hid r1
  clear r0 r1
  go_enter Tryz.func24, Tryz.ntmps24
  go_wp2_with (first
    | (at_builtin; refine append_bytes w.heap.size rfl _ _ rfl v1 (0 + n0) ([] ++ x0) rfl A1 n1 c1 x1 rfl HR1.out z1 HO1.out HB1.out.size (by omega) ?_
       intro v2 w2 ho2 hg2 hat2
       have HG2 := Lib.hid hg2
       clear hg2 hat2)
    | (at_builtin; refine append_bytes w.heap.size rfl _ _ rfl (.slice none 0 0) 0 [] rfl A0 n0 c0 x0 rfl R0.out z0 (own_nil _ _ _ _) (Nat.le_refl _) (by omega) ?_
       intro v1 w1 HO1 hg1 hat1
       have HB1 := Lib.hid (grown_nil hg1)
       have HR1 := Lib.hid (R1.out.below HB1.out)
       clear hg1 hat1))
  have hB2 : Below w.heap.size w w2 := grown_below HB1.out HG2.out HO1.out (Nat.le_refl _)
  obtain ⟨A, c, rfl, hr, hz, hc⟩ := rd_own_any ho2.out (by
    intro x hx
    rcases List.mem_append.1 hx with h | h
    · exact hb0 x (by simpa using h)
    · exact hb1 x h) (by omega)
  have hlen : (x0 ++ x1).length = 0 + n0 + n1 := by simp [h0, h1]
  rw [List.nil_append] at hr
  go_ret
  exact ⟨A, c, _, hlen, rfl, hr, hz, hc, hB2⟩
end Go.Proofs.YtigcpjjmafpjhaaGreatDoor
