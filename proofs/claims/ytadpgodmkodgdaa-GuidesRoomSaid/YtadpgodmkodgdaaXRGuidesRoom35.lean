/- The walks over params.four, params.exactly at uint32, params.GetCount at four bytes; The walks over params.exactly at uint32, GetCount, PutCount, of any bytes. -/
import Derived.Test.YtadpgodmkodgdaaXRGuidesRoom30
import Derived.Test.YtadpgodmkodgdaaXRGuidesRoom3
import Derived.Test.YtadpgodmkodgdaaXRGuidesRoom14
namespace Go.Proofs.Ytadpgodmkodgdaa
open Go.RowKit
set_option linter.unusedSimpArgs false
set_option linter.unusedVariables false

theorem four_any (A : Option Addr) (n c : Nat) (bs : List Int) (v : Int) (w : World) (r : Rd w .u8 A n bs) (l : n ≤ c) (h4 : 4 ≤ n) (hv : told (bs.take 4) = v) (h0 : 0 ≤ v) (h1 : v ≤ 4294967295) :
    Calls Try.prog 28 #[.slice A n c] w fun e w' => e = .returned (.int .u32 v) ∧ Below w.heap.size w w' := by
  have hg := get_any A n c bs 4 w r l
  have e1 : getE n 4 = 0 := by unfold getE; rw [if_neg (by omega), if_neg (by omega)]
  have e2 : getN bs n 4 = v := by unfold getN; rw [if_pos e1]; exact hv
  rw [e1, e2] at hg
  have hw : IntKind.u32.wrap v = v := IntWalk.u32_in _ (by omega)
  clear e1 e2 hv
  go_enter Try.func28, Try.ntmps28
  go_wp2_with fail
  refine hg.mono ?_; rintro e w1 ⟨rfl, hB⟩
  go_wp2_with fail
  go_ret
  exact ⟨rfl, hB⟩

theorem exact_any (A : Option Addr) (c : Nat) (bs : List Int) (v : Int) (w : World) (r : Rd w .u8 A 4 bs) (l : 4 ≤ c) (hv : told (bs.take 4) = v) (h0 : 0 ≤ v) (h1 : v ≤ 4294967295) :
    Calls Try.prog 27 #[.slice A 4 c, .int .i64 4, .func (.func 28) #[] #[], .slice none 0 0] w fun e w' => e = .returned (.tuple #[.int .u32 v, .int .i64 0]) ∧ Below w.heap.size w w' := by
  have hf := four_any A 4 c bs v w r l (Nat.le_refl _) hv h0 h1
  clear hv
  go_enter Try.func27, Try.ntmps27
  go_wp2_with fail
  refine wp_loop_rounds 1 ?_
  rw [rounds_succ]
  go_wp2_with fail
  refine hf.mono ?_; rintro e w1 ⟨rfl, hB⟩
  go_wp2_with fail
  go_ret2
  exact ⟨rfl, hB⟩

theorem count_any (A : Option Addr) (c : Nat) (bs : List Int) (v : Int) (w : World) (r : Rd w .u8 A 4 bs) (l : 4 ≤ c) (hv : told (bs.take 4) = v) (h0 : 0 ≤ v) (h1 : v ≤ 4294967295) :
    Calls Try.prog 15 #[.slice A 4 c] w fun e w' => e = .returned (.tuple #[.int .u32 v, .int .i64 0]) ∧ Below w.heap.size w w' := by
  have hf := exact_any A c bs v w r l hv h0 h1
  clear hv
  go_enter Try.func15, Try.ntmps15
  go_wp2_with fail
  refine hf.mono ?_; rintro e w1 ⟨rfl, hB⟩
  go_wp2_with fail
  go_ret2
  exact ⟨rfl, hB⟩
end Go.Proofs.Ytadpgodmkodgdaa

namespace Go.Proofs.Ytadpgodmkodgdaa
open Go.RowKit
set_option linter.unusedSimpArgs false
set_option linter.unusedVariables false

theorem pow256_mono {a b : Nat} (h : a ≤ b) : pow256 a ≤ pow256 b := by
  induction b with
  | zero => obtain rfl : a = 0 := by omega
            exact Int.le_refl _
  | succ k ih =>
    rcases Nat.lt_or_ge k a with h1 | h1
    · obtain rfl : a = k + 1 := by omega
      exact Int.le_refl _
    · have := ih h1
      have := pow256_pos k
      simp only [pow256]
      omega
theorem told_lt {l : List Int} {m : Nat} (h : ∀ x ∈ l, 0 ≤ x ∧ x ≤ 255) (hl : l.length ≤ m) : 0 ≤ told l ∧ told l < pow256 m := by
  obtain ⟨h1, h2⟩ := told_bounds l h
  have := pow256_mono hl
  exact ⟨h1, by omega⟩
theorem told4 {w : World} {A : Option Addr} {n : Nat} {bs : List Int} (r : Rd w .u8 A n bs) : 0 ≤ told (bs.take 4) ∧ told (bs.take 4) ≤ 4294967295 := by
  have h := told_lt (l := bs.take 4) (m := 4) (fun x hx => rd_bytes r x (List.mem_of_mem_take hx)) (by simp; omega)
  have e : pow256 4 = 4294967296 := by decide
  omega
theorem told8d {bs : List Int} (hb : ∀ x ∈ bs, 0 ≤ x ∧ x ≤ 255) (k : Nat) : 0 ≤ told ((bs.drop k).take 8) ∧ told ((bs.drop k).take 8) ≤ 18446744073709551615 := by
  have h := told_lt (l := (bs.drop k).take 8) (m := 8) (fun x hx => hb x (List.mem_of_mem_drop (List.mem_of_mem_take hx))) (by simp; omega)
  have e : pow256 8 = 18446744073709551616 := by decide
  omega
set_option maxHeartbeats 1000000 in
theorem exact_not (A : Option Addr) (n c : Nat) (w : World) (h : n ≠ 4) (hn : n ≤ 140737488351232) :
    Calls Try.prog 27 #[.slice A n c, .int .i64 4, .func (.func 28) #[] #[], .slice none 0 0] w fun e w' => e = .returned (.tuple #[.int .u32 0, .int .i64 4]) ∧ w = w' := by
  have f1 : ((n : Int) != 4) = true := by simp; omega
  clear h
  go_enter Try.func27, Try.ntmps27
  go_wp2_with fail
  go_ret2
  exact ⟨rfl, rfl⟩
/-- What GetCount answers. -/
def cntV (bs : List Int) (n : Nat) : Int := if n = 4 then told (bs.take 4) else 0
def cntE (n : Nat) : Int := if n = 4 then 0 else 4
set_option maxHeartbeats 1000000 in
theorem getcount_any (A : Option Addr) (n c : Nat) (bs : List Int) (w : World) (r : Rd w .u8 A n bs) (l : n ≤ c) :
    Calls Try.prog 15 #[.slice A n c] w fun e w' => e = .returned (.tuple #[.int .u32 (cntV bs n), .int .i64 (cntE n)]) ∧ Below w.heap.size w w' := by
  by_cases h : n = 4
  · subst h
    obtain ⟨h0, h1⟩ := told4 r
    have := count_any A c bs _ w r l rfl h0 h1
    simpa [cntV, cntE] using this
  · have H := Lib.hid (exact_not A n c w h r.big)
    have e1 : cntV bs n = 0 := if_neg h
    have e2 : cntE n = 4 := if_neg h
    rw [e1, e2]
    clear e1 e2 h r
    go_enter Try.func15, Try.ntmps15
    go_wp2_with fail
    refine H.out.mono ?_; rintro e w1 ⟨rfl, rfl⟩
    go_wp2_with fail
    go_ret2
    exact ⟨rfl, Below.refl _ _⟩
set_option maxHeartbeats 1000000 in
theorem putcount_any (v : Int) (w : World) (h0 : 0 ≤ v) (h1 : v ≤ 4294967295) : Calls Try.prog 19 #[.int .u32 v] w (Made w (be v 4)) := by
  have hw : IntKind.u64.wrap v = v := IntWalk.u64_in _ (by omega)
  have hp := put_any none 0 0 [] v 4 w ⟨rfl, by omega, fun x hx => by simp at hx, fun h => by omega⟩ (Nat.le_refl _) h0 (by omega)
  have e4 : putMany 4 = 4 := by decide
  rw [e4, List.nil_append] at hp
  have HP := Lib.hid hp
  clear hp e4
  go_enter Try.func19, Try.ntmps19
  go_wp2_with fail
  refine HP.out.mono ?_; rintro e w1 ⟨g, hg, rfl, hk, hB⟩
  have HF := Lib.hid (And.intro hg (And.intro hk hB))
  clear hg hk hB
  go_wp2_with fail
  refine (clip_all (some ⟨g, 0, none⟩) _ _ w1 (Nat.le_refl _)).mono ?_; rintro e w2 ⟨rfl, rfl⟩
  go_wp2_with fail
  go_ret
  exact ⟨g, HF.out.1, rfl, HF.out.2.1, HF.out.2.2⟩
end Go.Proofs.Ytadpgodmkodgdaa
