/- The walk over nums.PutLong. -/
import Derived.Test.YtigcpjjmafpjhaaGreatDoorKPut
namespace Go.Proofs.YtigcpjjmafpjhaaGreatDoor
open Go.RowKit
set_option linter.unusedSimpArgs false
set_option linter.unusedVariables false

/-- A long number's words, the lowest first. -/
def longVal (a b c d : Int) : Value := .agg #[.int .u64 a, .int .u64 b, .int .u64 c, .int .u64 d]
set_option maxHeartbeats 1000000 in
theorem putlong_any (A0 : Option Addr) (n0 c0 : Nat) (bs : List Int) (a b c d : Int) (w : World) (r0 : Rd w .u8 A0 n0 bs) (l0 : n0 ≤ c0)
    (ha : 0 ≤ a ∧ a ≤ 18446744073709551615) (hb : 0 ≤ b ∧ b ≤ 18446744073709551615) (hc : 0 ≤ c ∧ c ≤ 18446744073709551615) (hd : 0 ≤ d ∧ d ≤ 18446744073709551615) :
    Calls Tryz.prog 18 #[.slice A0 n0 c0, longVal a b c d] w (Made w (bs ++ flat [d, c, b, a] 8)) := by
  have hB1 : Below w.heap.size w ((w.alloc (.cells #[.int .u64 a, .int .u64 b, .int .u64 c, .int .u64 d] 30)).alloc (.cells #[.int .u64 d, .int .u64 c, .int .u64 b, .int .u64 a] 25)) := ((Below.refl _ _).alloc (Nat.le_refl _) _).alloc (by simp) _
  have r1 := r0.below hB1
  have hrow : Calls Tryz.prog 71 #[.slice A0 n0 c0, .int .i64 8, .slice (some ⟨w.heap.size + 1, 0, none⟩) 4 4] ((w.alloc (.cells #[.int .u64 a, .int .u64 b, .int .u64 c, .int .u64 d] 30)).alloc (.cells #[.int .u64 d, .int .u64 c, .int .u64 b, .int .u64 a] 25)) (Made w (bs ++ flat [d, c, b, a] 8)) := by
    have hbl := Blk.new (w.alloc (.cells #[.int .u64 a, .int .u64 b, .int .u64 c, .int .u64 d] 30)) 25 [.int .u64 d, .int .u64 c, .int .u64 b, .int .u64 a]
    rw [World.size_alloc] at hbl
    have := row_any A0 n0 c0 bs 8 (w.heap.size + 1) 4 4 [⟨d, hd⟩, ⟨c, hc⟩, ⟨b, hb⟩, ⟨a, ha⟩] _ r1 l0 (by omega) rfl (by omega) (by simp)
      (fun j hj => by
        rw [hbl.cell]
        rcases j with _ | _ | _ | _ | j
        · rfl
        · rfl
        · rfl
        · rfl
        · omega) [d, c, b, a] rfl
    exact this.mono fun e w' hm => Made.before hm hB1
  have HR := Lib.hid hrow
  clear hrow r1 ha hb hc hd
  unfold longVal
  obtain ⟨bytes, hbytes⟩ : ∃ l, bs ++ flat [d, c, b, a] 8 = l := ⟨_, rfl⟩
  rw [hbytes] at HR ⊢
  have HBY := Lib.hid hbytes
  clear hbytes
  go_enter Tryz.func18, Tryz.ntmps18
  go_wp2_with fail
  refine (HR.out).mono ?_
  rintro e w' ⟨g, hg, rfl, hk, hB⟩
  go_wp2_with fail
  go_ret
  exact ⟨g, hg, rfl, hk, hB⟩
end Go.Proofs.YtigcpjjmafpjhaaGreatDoor
