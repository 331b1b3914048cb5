/- The walk over SHA-256: a new run; more bytes; The walks over nums.Put. -/
import Derived.Test.YtadpgodmkodgdaaXRGuidesRoom13
import Derived.Test.YtadpgodmkodgdaaXRGuidesRoom2
namespace Go.Proofs.Ytadpgodmkodgdaa
open Go.RowKit
set_option linter.unusedSimpArgs false
set_option linter.unusedVariables false

def NewRun (w : World) (e : Ending) (w' : World) : Prop := ∃ G H : Nat, e = .returned (.pointer (some ⟨G, 0, none⟩)) ∧ RunH w' G H [] (totI 0) ∧ w.heap.size ≤ G ∧ w.heap.size ≤ H ∧ H ≠ G ∧ Below w.heap.size w w'
set_option maxRecDepth 100000 in
set_option maxHeartbeats 4000000 in
theorem new_run (w : World) : Calls Try.prog 56 #[] w (NewRun w) := by
  have h1 : Blk (w.alloc (.cells (firstL.map (Value.int .u32)).toArray 134)) w.heap.size 134 (firstL.map (Value.int .u32)) := Blk.new w 134 _
  have h2 : Blk ((w.alloc (.cells (firstL.map (Value.int .u32)).toArray 134)).alloc (.cells (runC w.heap.size (List.replicate 64 0) 0 0).toArray 138)) (w.heap.size + 1) 138 (runC w.heap.size (List.replicate 64 0) 0 0) := by
    have := Blk.new (w.alloc (.cells (firstL.map (Value.int .u32)).toArray 134)) 138 (runC w.heap.size (List.replicate 64 0) 0 0)
    simpa using this
  have H1 := Lib.hid h1
  have H2 := Lib.hid h2
  have HB : Hid (Below w.heap.size w ((w.alloc (.cells (firstL.map (Value.int .u32)).toArray 134)).alloc (.cells (runC w.heap.size (List.replicate 64 0) 0 0).toArray 138))) := Lib.hid (((Below.refl _ w).alloc (Nat.le_refl _) _).alloc (by simp) _)
  clear h1 h2
  go_enter Try.func56, Try.ntmps56
  go_wp2_with fail
  go_ret
  exact ⟨w.heap.size + 1, w.heap.size, rfl, ⟨⟨List.replicate 64 0, H2.out, by simp, fun x hx => by rw [List.mem_replicate] at hx; omega, rfl⟩, H1.out.alloc _⟩, by omega, Nat.le_refl _, by omega, HB.out⟩
theorem parts_one {w : World} {G : Nat} {A : Option Addr} {n c : Nat} {xs : List Int} (t : TypeId) (hx : RdX w G A n xs) (hc : n ≤ c) (hG : G < w.heap.size) :
    PartsX (w.alloc (.cells #[.slice A n c] t)) G (some ⟨w.heap.size, 0, none⟩) 1 [xs] :=
  ⟨rfl, by omega, fun _ => ⟨w.heap.size, 0, rfl, by simp, by omega, fun j p hj => by
    have h0 : j = 0 := by have := (List.getElem?_eq_some_iff.1 hj).1; simpa using this
    subst h0
    simp only [List.getElem?_cons_zero, Option.some.injEq] at hj
    subst hj
    rw [hx.rd.len]
    exact ⟨A, c, (Blk.new w t [.slice A n c]).cell 0, hc, hx.keep ((Keeps.refl _ w).alloc _)⟩⟩⟩
def WriteAns (G H : Nat) (d xs : List Int) (w : World) (e : Ending) (w' : World) : Prop :=
  ∃ H', e = .returned (.int .i64 0) ∧ RunH w' G H' (d ++ xs) (totI (d ++ xs).length) ∧ (H' = H ∨ w.heap.size ≤ H') ∧ H' ≠ G ∧ Keeps (· = G) w w'
set_option maxRecDepth 100000 in
set_option maxHeartbeats 4000000 in
theorem write_any (G H n c : Nat) (A : Option Addr) (d xs : List Int) (w : World) (h : RunH w G H d (totI d.length)) (hne : H ≠ G) (hx : RdX w G A n xs) (hc : n ≤ c) :
    Calls Try.prog 57 #[.pointer (some ⟨G, 0, none⟩), .slice A n c] w (WriteAns G H d xs w) := by
  have hk : Keeps (fun i => i = G) w (w.alloc (.cells #[.slice A n c] 49)) := (Keeps.refl _ w).alloc _
  have hGl : G < w.heap.size := by obtain ⟨⟨buf, a, _⟩, _⟩ := h; exact a.lt
  have hp := parts_one (w := w) 49 hx hc hGl
  have hR : RunH (w.alloc (.cells #[.slice A n c] 49)) G H d (totI d.length) := h.keep (M := fun _ => False) ((Keeps.refl _ w).alloc _) (fun h => h) (fun h => h)
  have HT := Lib.hid (takes_any G H 1 1 _ d [xs] _ hR hne hp)
  have HF : Hid (flatI [xs] = xs) := Lib.hid (by simp [flatI])
  have d0 : w.cell? ⟨G, 0, none⟩ = some (.pointer (some ⟨H, 0, none⟩)) := by obtain ⟨⟨buf, a, _⟩, _⟩ := h; exact a.cell 0
  have HK := Lib.hid hk
  have HS : Hid (w.heap.size ≤ (w.alloc (.cells #[.slice A n c] 49)).heap.size) := Lib.hid (by simp)
  clear h hne hx hc hk hp hR hGl
  go_enter Try.func57, Try.ntmps57
  go_wp2_with fail
  refine HT.out.mono ?_
  rintro e w' ⟨H', rfl, hr, hor, hn, hk'⟩
  rw [HF.out] at hr
  have HR := Lib.hid hr
  have HOR := Lib.hid hor
  have HN := Lib.hid hn
  have HKK := Lib.hid (HK.out.trans hk')
  clear hr hor hn hk'
  go_wp2_with fail
  go_ret
  refine ⟨H', rfl, HR.out, ?_, HN.out, HKK.out⟩
  rcases HOR.out with e | e
  · exact .inl e
  · exact .inr (Nat.le_trans HS.out e)
end Go.Proofs.Ytadpgodmkodgdaa

namespace Go.Proofs.Ytadpgodmkodgdaa
open Go.RowKit
set_option linter.unusedSimpArgs false
set_option linter.unusedVariables false

theorem Made.before {w w1 w' : World} {bytes : List Int} {e : Ending} (h : Made w1 bytes e w') (hb : Below w.heap.size w w1) : Made w bytes e w' := by
  obtain ⟨g, hg, he, hk, hB⟩ := h
  exact ⟨g, Nat.le_trans hb.size hg, he, hk, hb.trans (hB.mono hb.size)⟩

/-- How many bytes Put takes. -/
def putMany (k : Int) : Nat := (max 0 (min 8 k)).toNat

set_option maxHeartbeats 400000 in
theorem put_any (A0 : Option Addr) (n0 c0 : Nat) (bs : List Int) (n k : Int) (w : World) (r0 : Rd w .u8 A0 n0 bs) (l0 : n0 ≤ c0) (h0 : 0 ≤ n) (h1 : n ≤ 18446744073709551615) :
    Calls Try.prog 33 #[.slice A0 n0 c0, .int .u64 n, .int .i64 k] w (Made w (bs ++ be n (putMany k))) := by
  have hB1 : Below w.heap.size w (w.alloc (.cells #[.int .u64 n] 84)) := (Below.refl _ _).alloc (Nat.le_refl _) _
  have r1 := r0.below hB1
  have hrow : ∀ each : Nat, each ≤ 8 → Calls Try.prog 39 #[.slice A0 n0 c0, .int .i64 (each : Int), .slice (some ⟨w.heap.size, 0, none⟩) 1 1] (w.alloc (.cells #[.int .u64 n] 84)) (Made w (bs ++ be n each)) := fun each he => by
    have := row_any A0 n0 c0 bs each w.heap.size 1 1 [⟨n, h0, h1⟩] (w.alloc (.cells #[.int .u64 n] 84)) r1 l0 he rfl (by omega) (by simp)
      (fun j hj => by obtain rfl : j = 0 := by omega
                      exact (Blk.new w 84 [.int .u64 n]).cell 0) [n] rfl
    refine this.mono fun e w' hm => ?_
    have hm' : Made (w.alloc (.cells #[.int .u64 n] 84)) (bs ++ be n each) e w' := by simpa [flat] using hm
    exact hm'.before hB1
  have HR := Lib.hid hrow
  clear hrow r1
  have fin : ∀ (each : Nat) (e : Ending) (w' : World), putMany k = each → Made w (bs ++ be n each) e w' → Made w (bs ++ be n (putMany k)) e w' := fun each e w' he hm => by rw [he]; exact hm
  have FIN := Lib.hid fin
  clear fin
  by_cases k0 : k ≤ 0
  · have e1 : putMany k = 0 := by unfold putMany; omega
    have HE := Lib.hid e1
    clear e1
    go_enter Try.func33, Try.ntmps33
    go_wp2_with fail
    refine (HR.out 0 (by omega)).mono ?_
    rintro e w' ⟨g, hg, rfl, hk, hB⟩
    go_wp2_with fail
    go_ret
    exact FIN.out 0 _ _ HE.out ⟨g, hg, by simp, hk, hB⟩
  · by_cases k8 : 8 ≤ k
    · have e1 : putMany k = 8 := by unfold putMany; omega
      have HE := Lib.hid e1
      clear e1
      go_enter Try.func33, Try.ntmps33
      go_wp2_with fail
      refine (HR.out 8 (by omega)).mono ?_
      rintro e w' ⟨g, hg, rfl, hk, hB⟩
      go_wp2_with fail
      go_ret
      exact FIN.out 8 _ _ HE.out ⟨g, hg, by simp, hk, hB⟩
    · obtain ⟨m, rfl⟩ := Int.eq_ofNat_of_zero_le (show 0 ≤ k by omega)
      have e1 : putMany (m : Int) = m := by unfold putMany; omega
      have HE := Lib.hid e1
      clear e1
      go_enter Try.func33, Try.ntmps33
      go_wp2_with fail
      refine (HR.out m (by omega)).mono ?_
      rintro e w' ⟨g, hg, rfl, hk, hB⟩
      go_wp2_with fail
      go_ret
      exact FIN.out m _ _ HE.out ⟨g, hg, by simp, hk, hB⟩
end Go.Proofs.Ytadpgodmkodgdaa
