/- The walk over slices.Insert at pieces: one piece more, where there is room for it. -/
import Derived.Test.YtlcnjdpfijgcdaaPTwins
import Derived.Lib.Overlaps
import Derived.Laws.Externs
namespace Go.Proofs.Ytlcnjdpfijgcdaa
open Go.RowKit
set_option linter.unusedSimpArgs false
set_option linter.unusedVariables false

theorem add_lit (g o j : Nat) : (⟨g, o, none⟩ : Addr).add j = ⟨g, o + j, none⟩ := by unfold Addr.add; split <;> simp_all
/-- s[m:] of pieces that lie in a block. -/
theorem slice_lowP (W : World) (g o len c m : Nat) (h : m ≤ len) (hc : m < c) : (Instr.slice 66 (.slice (some ⟨g, o, none⟩) len c) (some (.int .i64 (m : Int))) none none).run Try.prog W = .ok (.slice (some ⟨g, o + m * 2, none⟩) (len - m) (c - m)) W := by
  rw [run_slice_l W 66 _ len c (by kernel_rfl) .i64 (m : Int) (by omega) (by omega), show (sizeOf (Try.prog.elem 66)).run Try.prog W = .ok 2 W from by kernel_rfl]
  simp only [Result.andThen, sliced, Int.toNat_natCast]
  rw [if_neg (by omega)]
  simp only [Option.map_some, add_lit]
/-- s[:m]. -/
theorem slice_highP (W : World) (A : Option Addr) (len c m : Nat) (h : m ≤ c) : (Instr.slice 66 (.slice A len c) none (some (.int .i64 (m : Int))) none).run Try.prog W = .ok (.slice A m c) W := by
  rw [run_slice_h W 66 A len c (by kernel_rfl) .i64 (m : Int) (by omega) (by omega), show (sizeOf (Try.prog.elem 66)).run Try.prog W = .ok 2 W from by kernel_rfl]
  simp only [Result.andThen, sliced]
  have h0 : ∀ ad : Addr, ad.add 0 = ad := fun ad => by cases ad; unfold Addr.add; split <;> simp_all
  cases A with
  | none => simp
  | some ad => simp [h0]
theorem insert_cells (hs : List Hd) (x : Hd) (rest : List Value) (i : Nat) (hi : i ≤ hs.length) (hr : rest.length = 2) :
    splice (splice (hcells hs ++ rest) ((i + 1) * 2) (hcells (hs.drop i))) (i * 2) (hcell x) = hcells (hs.take i ++ x :: hs.drop i) := by
  have hl := hcells_length hs
  have hd : (hcells (hs.drop i)).length = (hs.length - i) * 2 := by rw [hcells_length, List.length_drop]
  have hx : (hcell x).length = 2 := rfl
  rw [hcells_append, hcells_cons, hcells_take]
  generalize hcells (hs.drop i) = D at hd ⊢
  have e1 : splice (hcells hs ++ rest) ((i + 1) * 2) D = (hcells hs ++ rest).take ((i + 1) * 2) ++ D := by
    rw [splice, List.drop_of_length_le (by rw [List.length_append]; omega), List.append_nil]
  rw [e1, splice, hx]
  have ht : ((hcells hs ++ rest).take ((i + 1) * 2)).length = (i + 1) * 2 := by rw [List.length_take, List.length_append]; omega
  rw [List.take_append_of_le_length (by omega), List.take_take, Nat.min_eq_left (by omega), List.take_append_of_le_length (by omega), List.drop_append_of_le_length (by omega), List.drop_of_length_le (by omega), List.nil_append]

set_option maxRecDepth 100000 in
set_option maxHeartbeats 2000000 in
theorem insert_any (G n i b : Nat) (hs : List Hd) (rest : List Value) (x : Hd) (w : World) (hi : i ≤ n) (hn : n < 1099511627776) (hl : hs.length = n) (hr : rest.length = 2) (hk : Blk w G 69 (hcells hs ++ rest)) (hb : Blk w b 69 (hcell x)) (hne : b ≠ G) :
    Calls Try.prog 58 #[.slice (some ⟨G, 0, none⟩) n (n + 1), .int .i64 i, .slice (some ⟨b, 0, none⟩) 1 1] w fun e w' => e = .returned (.slice (some ⟨G, 0, none⟩) (n + 1) (n + 1)) ∧ Blk w' G 69 (hcells (hs.take i ++ x :: hs.drop i)) ∧ Keeps (· = G) w w' := by
  have hcl : (hcells hs ++ rest).length = n * 2 + 2 := by rw [List.length_append, hcells_length, hl, hr]
  have hs1 : ∀ W : World, (Instr.slice 66 (.slice (some ⟨G, 0, none⟩) n (n + 1)) (some (.int .i64 (i : Int))) none none).run Try.prog W = .ok (.slice (some ⟨G, i * 2, none⟩) (n - i) (n + 1 - i)) W := fun W => by
    have := slice_lowP W G 0 n (n + 1) i hi (by omega)
    rwa [Nat.zero_add] at this
  have i0 : (0 : Int) ≤ (i : Int) := by omega
  have i1 : (i : Int) ≤ (n : Int) := by omega
  rcases Nat.lt_or_ge i n with hlt | hge
  · have hs2 : ∀ W : World, (Instr.slice 66 (.slice (some ⟨G, 0, none⟩) n (n + 1)) none (some (.int .i64 ((n : Int) + 1))) none).run Try.prog W = .ok (.slice (some ⟨G, 0, none⟩) (n + 1) (n + 1)) W := fun W => by
      have := slice_highP W (some ⟨G, 0, none⟩) n (n + 1) (n + 1) (Nat.le_refl _)
      rwa [show ((n + 1 : Nat) : Int) = (n : Int) + 1 by omega] at this
    have hs3 : ∀ W : World, (Instr.slice 66 (.slice (some ⟨G, 0, none⟩) (n + 1) (n + 1)) (some (.int .i64 ((i : Int) + 1))) none none).run Try.prog W = .ok (.slice (some ⟨G, (i + 1) * 2, none⟩) (n - i) (n - i)) W := fun W => by
      have := slice_lowP W G 0 (n + 1) (n + 1) (i + 1) (by omega) (by omega)
      rwa [Nat.zero_add, show ((i + 1 : Nat) : Int) = (i : Int) + 1 by omega, show n + 1 - (i + 1) = n - i by omega] at this
    have hs4 : ∀ W : World, (Instr.slice 66 (.slice (some ⟨G, 0, none⟩) (n + 1) (n + 1)) (some (.int .i64 (i : Int))) none none).run Try.prog W = .ok (.slice (some ⟨G, i * 2, none⟩) (n + 1 - i) (n + 1 - i)) W := fun W => by
      have := slice_lowP W G 0 (n + 1) (n + 1) i (by omega) (by omega)
      rwa [Nat.zero_add] at this
    have hov : (callFunc 75 #[.slice (some ⟨b, 0, none⟩) 1 1, .slice (some ⟨G, (i + 1) * 2, none⟩) (n - i) (n - i)]).run Try.prog w = .ok (.value (.bool false)) w := by
      rw [run_callFunc_extern Try.func75 (by kernel_rfl) (by kernel_rfl) (by kernel_rfl) (e := Extern.SlicesOverlaps.overlaps #[66, 66] #[4]) (by kernel_rfl),
        Lib.run_overlaps_apart w 66 4 69 Try.underlying66 2 (fun w => by kernel_rfl) ⟨b, 0, none⟩ ⟨G, (i + 1) * 2, none⟩ 1 1 (n - i) (n - i) hne 69 69 2 (n * 2 + 2) (by simp [World.shape?, hb, hcell]; unfold Blk at hb; rw [hb]; rfl) (by unfold Blk at hk; simp [World.shape?, hk, hcl]) (by omega) (hb.free 0) (hb.free 2)]
      rfl
    have hz : ¬ (i : Int) = (n : Int) := by omega
    have hw1 : IntKind.i64.wrap ((n : Int) + 1) = (n : Int) + 1 := IntWalk.i64_in _ (by omega)
    have hw2 : IntKind.i64.wrap ((i : Int) + 1) = (i : Int) + 1 := IntWalk.i64_in _ (by omega)
    have hkd := hk.drew
    have hsrc1 : ∀ j v, (hcells (hs.drop i))[j]? = some v → w.drew.cell? ((⟨G, i * 2, none⟩ : Addr).add j) = some v := fun j v hj => by
      rw [add_lit, hkd.cell]
      rw [hcells_drop, List.getElem?_drop] at hj
      rw [List.getElem?_append_left (by have := (List.getElem?_eq_some_iff.1 hj).1; exact this)]
      exact hj
    have hd : (hcells (hs.drop i)).length = (n - i) * 2 := by rw [hcells_length, List.length_drop, hl]
    have hfit : (i + 1) * 2 + (hcells (hs.drop i)).length ≤ (hcells hs ++ rest).length := by rw [hd, hcl]; omega
    have hend := insert_cells hs x rest i (by omega) hr
    have HKD := Lib.hid hkd
    have HBD := Lib.hid hb.drew
    have HS1 := Lib.hid hsrc1
    have HD := Lib.hid hd
    have HFIT := Lib.hid hfit
    have HEND := Lib.hid hend
    have HCL := Lib.hid hcl
    have HNE := Lib.hid hne
    have hone : ∀ u ∈ hcell x, u.oneCell' = true := by
      have := @hcells_one [x]
      simpa [hcells] using this
    have HONE := Lib.hid hone
    have hb4 : ¬ ((n : Int) + 1 < (n : Int) + 1) := by omega
    clear hk hb hkd hsrc1 hd hfit hend hcl hne hone hl hr
    go_enter Try.func58, Try.ntmps58
    go_wp2_with (simp only [hov])
    go_region_law (refine step_copyN rfl _ _ 66 66 rfl 69 2 Try.underlying66 size_param ⟨G, i * 2, none⟩ (n - i) (n - i) (n - i) (n + 1 - i) (n + 1 - i) G ((i + 1) * 2) (by simp [Act.eval, Act.put]) (by simp [Act.eval, Act.put]) (hcells hs ++ rest) 69 HKD.out (hcells (hs.drop i)) (by simp only [Nat.min_def]; split <;> omega) HD.out HS1.out HFIT.out hcells_one ?_; intro w3 hb3 hk3; have HK3 := Lib.hid hk3; clear hk3)
    have hbb : Blk w3 b 69 (hcell x) := HBD.out.keep HK3.out HNE.out
    have hsrc2 : ∀ j v, (hcell x)[j]? = some v → w3.cell? ((⟨b, 0, none⟩ : Addr).add j) = some v := fun j v hj => by
      rw [add_lit, Nat.zero_add, hbb.cell]; exact hj
    have hfit2 : i * 2 + (hcell x).length ≤ (splice (hcells hs ++ rest) ((i + 1) * 2) (hcells (hs.drop i))).length := by
      rw [length_splice _ _ _ HFIT.out, HCL.out, show (hcell x).length = 2 from rfl]; omega
    have HS2 := Lib.hid hsrc2
    have HFIT2 := Lib.hid hfit2
    clear hbb hsrc2 hfit2
    go_wp2_with (with_reducible refine wpList_copyN rfl _ _ 66 66 rfl 69 2 Try.underlying66 size_param ⟨b, 0, none⟩ 1 (n + 1 - i) (n + 1 - i) 1 1 G (i * 2) rfl rfl _ 69 hb3.out (hcell x) (by simp only [Nat.min_def]; split <;> omega) rfl HS2.out HFIT2.out HONE.out ?_; intro w4 hb4 hk4)
    have hb5 := hb4.out
    rw [HEND.out] at hb5
    have HB5 := Lib.hid hb5
    have HK5 : Hid (Keeps (· = G) w w4) := Lib.hid ((((Keeps.refl _ w).drew).trans HK3.out).trans hk4)
    clear hb5 hk4 hb4
    go_wp2_with fail
    go_ret
    exact ⟨rfl, HB5.out, HK5.out⟩
  · obtain rfl : i = n := by omega
    have hend : hcells (hs.take i ++ x :: hs.drop i) = hcells (hs ++ [x]) := by rw [List.take_of_length_le (by omega), List.drop_of_length_le (by omega)]
    have HEND := Lib.hid hend
    have hone : ∀ u ∈ hcell x, u.oneCell' = true := by
      have := @hcells_one [x]
      simpa [hcells] using this
    have HONE := Lib.hid hone
    have HK := Lib.hid hk
    have HB := Lib.hid hb
    have hfit : i * 2 + 2 ≤ (hcells hs ++ rest).length := by rw [hcl]; exact Nat.le_refl _
    have HFIT := Lib.hid hfit
    have HL := Lib.hid hl
    have HR := Lib.hid hr
    clear hk hb hcl hend hone hfit hl hr
    go_enter Try.func58, Try.ntmps58
    go_wp2_with (at_builtin; refine append_room_el rfl _ _ 66 69 2 rfl Try.underlying66 size_param G i (i + 1) (hcells hs ++ rest) (hcell x) b rfl rfl rfl HONE.out HK.out HB.out (Nat.le_refl _) HFIT.out ?_; intro w3 hb3 hk3; have HK3 := Lib.hid hk3; clear hk3)
    have hb4 := hb3.out
    rw [splice_end (hcells hs) rest _ (i * 2) (by rw [hcells_length, HL.out]), List.drop_of_length_le (by rw [HR.out]; exact Nat.le_refl _), List.append_nil] at hb4
    have HB4 : Hid (Blk w3 G 69 (hcells (hs ++ [x]))) := Lib.hid (by rw [hcells_append]; simpa [hcells] using hb4)
    clear hb4
    go_ret
    exact ⟨rfl, by rw [HEND.out]; exact HB4.out, HK3.out⟩
end Go.Proofs.Ytlcnjdpfijgcdaa
