/- The walks over the readers of bodies that draw: GetLane$1, GetSig$1, readPuzzle, GetSolution$1. -/
import Derived.Test.YtgecfcdafbedaaaGreatZRParamsBodies18
import Derived.Test.YtgecfcdafbedaaaGreatZRParamsBodies26
import Derived.Test.YtgecfcdafbedaaaGreatZRParamsBodies16
namespace Go.Proofs.YtgecfcdafbedaaaGreat
open Go.RowKit
set_option linter.unusedSimpArgs false
set_option linter.unusedVariables false

theorem Rd.cutB {w : World} {A : Option Addr} {n : Nat} {xs : List Int} (h : Rd w .u8 A n xs) (m : Nat) (hm : m ≤ n) : Rd w .u8 A m (xs.take m) :=
  ⟨by rw [List.length_take, h.len]; omega, by have := h.big; omega, fun x hx => h.wf x (List.mem_of_mem_take hx), fun h0 => by
    obtain ⟨b, off, e, hb, hc⟩ := h.row (by omega)
    exact ⟨b, off, e, hb, fun j hj => by rw [List.getElem?_take, if_pos hj]; exact hc j (by omega)⟩⟩
def laneC (bs : List Int) : List Value := [.int .u32 (told (bs.take 4)), .int .u32 (told ((bs.drop 4).take 4))]
set_option maxRecDepth 100000 in
set_option maxHeartbeats 2000000 in
theorem rdlane_any (A : Option Addr) (c : Nat) (bs : List Int) (w : World) (r : Rd w .u8 A 8 bs) (l : 8 ≤ c) (hz : A = none → c = 0) :
    Calls Tryz.prog 42 #[.slice A 8 c] w fun e w' => e = .returned (.agg (laneC bs).toArray) ∧ Below w.heap.size w w' := by
  obtain ⟨S, hS⟩ : ∃ S, w.heap.size = S := ⟨_, rfl⟩
  have HS := Lib.hid hS
  obtain ⟨A', s1, s2, s3⟩ := slice_from A 8 c 4 (by omega) l hz
  obtain ⟨x, hx⟩ : ∃ x, told (bs.take 4) = x := ⟨_, rfl⟩
  obtain ⟨y, hy⟩ : ∃ y, told ((bs.drop 4).take 4) = y := ⟨_, rfl⟩
  have hv : (laneC bs).toArray = #[.int .u32 x, .int .u32 y] := by rw [← hx, ← hy]; rfl
  rw [hv]
  have b1 := told4 r
  have b2 := told4 (s2 w bs r)
  rw [hx] at b1
  rw [hy] at b2
  have hf1 := fun w1 (hB : Below w.heap.size w w1) => four_any A 8 c bs x w1 (r.below hB) l (by omega) hx b1.1 b1.2
  have hf2 := fun w1 (hB : Below w.heap.size w w1) => four_any A' 4 (c - 4) (bs.drop 4) y w1 (s2 w1 bs (r.below hB)) (by omega) (by omega) hy b2.1 b2.2
  have HF1 := Lib.hid hf1
  have HF2 := Lib.hid hf2
  have HSL := Lib.hid s1
  have HU := Lib.hid Tryz.underlying74
  have HAL := Lib.hid alloc_arr2
  have hsz : (Tryz.prog.info? 74).map (·.size) = some 2 := size_arr2
  have HSZ := Lib.hid hsz
  clear hS hv hx hy b1 b2 hf1 hf2 s1 s2 s3 r hsz hz
  go_enter Tryz.func42, Tryz.ntmps42
  go_upto_region 0 with fail
  refine wp_region_lit ?_
  refine wpList_allocT (o := ⟨some 2, .alloc 74, _, _, _, _⟩) rfl 74 zARR2 (fun W => HAL.out W _ rfl _) ?_; intro w1 HK1 HB1
  rw [HS.out] at HK1 ⊢
  have HB1d := Lib.hid (show Below w.heap.size w w1.drew from ⟨HB1.out.os, HB1.out.tape, HB1.out.output, HB1.out.size, HB1.out.block⟩)
  go_upto_region 1 with fail
  refine wp_region_noPanic ?_
  refine wp_region_held_drew (S := (fun w' => True)) (by kernel_rfl) ?_ (fun hHeld => ?_)
  · ((try dsimp only) <;> (first | assumption | (go_keep; done)))
  refine wpAnyH_take (i := 0) (oi := ⟨some 3, _, _, _, _, _⟩) (v := ?_) rfl (by kernel_rfl) (by kernel_rfl) (by kernel_rfl) (fun _ _ _ h => False.elim h) (Or.inl ⟨by rfl, ?_⟩) (by assumption) ?_
  rotate_left
  · intro w hSw
    (try dsimp only at hSw)
    go_simp
    all_goals with_reducible rfl
  (try simp only [Act.put, List.setIfInBounds_toArray, List.set_cons_zero, List.set_cons_succ])
  refine wpAnyH_take (i := 2) (oi := ⟨some 5, _, _, _, _, _⟩) (v := ?_) rfl (by kernel_rfl) (by kernel_rfl) (by kernel_rfl) (fun _ _ _ h => False.elim h) (Or.inl ⟨by rfl, ?_⟩) (by assumption) ?_
  rotate_left
  · intro w hSw
    (try dsimp only at hSw)
    go_simp
    all_goals with_reducible rfl
  (try simp only [Act.put, List.setIfInBounds_toArray, List.set_cons_zero, List.set_cons_succ])
  refine wpAnyH_take (i := 3) (oi := ⟨some 6, _, _, _, _, _⟩) (v := .slice A' 4 (c - 4)) rfl (by kernel_rfl) (by kernel_rfl) (by kernel_rfl) (fun _ _ _ h => False.elim h) ?_ (by assumption) ?_
  · exact yieldsIf_sliceG (by rfl) 22 _ _ _ _ rfl _ 5 Tryz.underlying22 (fun W => by simpa [Act.eval, Act.put] using HSL.out W)
  (try simp only [Act.put, List.setIfInBounds_toArray, List.set_cons_zero, List.set_cons_succ])
  refine wpAnyH_ready (rs := [1]) (by kernel_rfl) (by simp) ?_
  refine AllReadyH.cons (o := ⟨some 4, _, _, _, _, _⟩) rfl (fun K hK => ?_) AllReadyH.nil
  go_simp
  (refine (HF1.out _ HB1d.out).mono ?_; rintro e w2 ⟨rfl, hB2⟩; have HK2 : Hid (Blk w2 S 74 zARR2) := Lib.hid (HK1.out.drew.keep (Keeps.of_below (M := fun _ => False) hB2) (fun h => h)); have HB2 := Lib.hid (HB1d.out.trans (hB2.mono HB1d.out.size)); clear hB2)
  (try go_wp2_with fail)
  refine hK.out _ _ ?_ (fun hHeld => ?_)
  · ((try dsimp only) <;> (first | assumption | (go_keep; done)))
  clear hK K
  (try simp only [Act.put, List.setIfInBounds_toArray, List.set_cons_zero, List.set_cons_succ])
  refine wpAnyH_ready (rs := [4]) (by kernel_rfl) (by simp) ?_
  refine AllReadyH.cons (o := ⟨some 7, _, _, _, _, _⟩) rfl (fun K hK => ?_) AllReadyH.nil
  go_simp
  (refine (HF2.out _ HB2.out).mono ?_; rintro e w3 ⟨rfl, hB3⟩; have HK3 : Hid (Blk w3 S 74 zARR2) := Lib.hid (HK2.out.keep (Keeps.of_below (M := fun _ => False) hB3) (fun h => h)); have HB3 := Lib.hid (HB2.out.trans (hB3.mono HB2.out.size)); clear hB3)
  (try go_wp2_with fail)
  refine hK.out _ _ ?_ (fun hHeld => ?_)
  · ((try dsimp only) <;> (first | assumption | (go_keep; done)))
  clear hK K
  (try simp only [Act.put, List.setIfInBounds_toArray, List.set_cons_zero, List.set_cons_succ])
  refine wpAnyH_take (i := 5) (oi := ⟨some 8, _, _, _, _, _⟩) (v := .agg #[.int .u32 x, .int .u32 y]) rfl (by kernel_rfl) (by kernel_rfl) (by kernel_rfl) (fun _ _ _ h => False.elim h) ?_ (by assumption) ?_
  · exact yieldsIf_buildG (by rfl) 74 _ rfl _ (fun W => by kernel_rfl)
  (try simp only [Act.put, List.setIfInBounds_toArray, List.set_cons_zero, List.set_cons_succ])
  refine wpAnyH_ready (rs := [6]) (by kernel_rfl) (by simp) ?_
  refine AllReadyH.cons (o := ⟨none, _, _, _, _, _⟩) rfl (fun K hK => ?_) AllReadyH.nil
  (refine step_overT rfl 74 _ _ rfl S [.int .u32 x, .int .u32 y] zARR2 74 rfl rfl HK3.out rfl HSZ.out (by simp [Value.oneCell']) ?_; intro w4 HK4 hk4; have HB4 := Lib.hid (below_keeps HB3.out hk4.out (Nat.le_refl _) (fun i hi => by rw [hi, HS.out]; exact Nat.le_refl _)); clear hk4)
  refine hK.out _ _ ?_ (fun hHeld => ?_)
  · ((try dsimp only) <;> (first | assumption | (go_keep; done)))
  clear hK K
  (try simp only [Act.put, List.setIfInBounds_toArray, List.set_cons_zero, List.set_cons_succ])
  refine wpAnyH_done (by kernel_rfl) ?_ _
  refine NoPanic.normal ?_
  go_wp2_with fail
  refine bodyPost_ret (results_rowT rfl _ S _ _ _ rfl HK4.out HU.out rfl HSZ.out) rfl ?_
  exact ⟨rfl, HB4.out⟩

theorem build_sig (V1 V2 : List Value) (h1 : V1.length = 4) (h2 : V2.length = 4) (W : World) : (Instr.build 33 #[(0, .agg V1.toArray), (1, .agg V2.toArray)]).run Tryz.prog W = .ok (.agg (V1 ++ V2).toArray) W := by
  obtain ⟨f, rfl⟩ := as_map V1 4 h1
  obtain ⟨g, rfl⟩ := as_map V2 4 h2
  kernel_rfl
theorem build_puz (x y : Int) (V : List Value) (h : V.length = 32) (W : World) : (Instr.build 29 #[(0, .int .u8 x), (1, .int .u64 y), (2, .agg V.toArray)]).run Tryz.prog W = .ok (.agg ([Value.int .u8 x, Value.int .u64 y] ++ V).toArray) W := by
  obtain ⟨f, rfl⟩ := as_map V 32 h
  kernel_rfl
set_option maxRecDepth 100000 in
theorem build_sol (V1 V2 : List Value) (h1 : V1.length = 34) (h2 : V2.length = 32) (W : World) : (Instr.build 87 #[(0, .agg V1.toArray), (1, .agg V2.toArray)]).run Tryz.prog W = .ok (.agg (V1 ++ V2).toArray) W := by
  obtain ⟨f, rfl⟩ := as_map V1 34 h1
  obtain ⟨g, rfl⟩ := as_map V2 32 h2
  kernel_rfl
def sigC (bs : List Int) : List Value := longC (bs.take 32) ++ longC (bs.drop 32)
set_option maxRecDepth 100000 in
set_option maxHeartbeats 2000000 in
theorem rdsig_any (A : Option Addr) (c : Nat) (bs : List Int) (w : World) (r : Rd w .u8 A 64 bs) (l : 64 ≤ c) (hz : A = none → c = 0) :
    Calls Tryz.prog 59 #[.slice A 64 c] w fun e w' => e = .returned (.agg (sigC bs).toArray) ∧ Below w.heap.size w w' := by
  obtain ⟨S, hS⟩ : ∃ S, w.heap.size = S := ⟨_, rfl⟩
  have HS := Lib.hid hS
  obtain ⟨A', s1, s2, s3⟩ := slice_from A 64 c 32 (by omega) l hz
  have s4 := fun W => slice_to W A 64 c 32 (by omega)
  have hf1 := fun w1 (hB : Below w.heap.size w w1) => number_any A c (bs.take 32) w1 ((r.below hB).cutB 32 (by omega)) (by omega)
  have hf2 := fun w1 (hB : Below w.heap.size w w1) => number_any A' (c - 32) (bs.drop 32) w1 (s2 w1 bs (r.below hB)) (by omega)
  have hbu := build_sig (longC (bs.take 32)) (longC (bs.drop 32)) rfl rfl
  have hone : ∀ v ∈ sigC bs, v.oneCell' = true := fun v hv => by
    rcases List.mem_append.1 hv with h | h <;> exact one_ints v h
  have hsz : (Tryz.prog.info? 33).map (·.size) = some (sigC bs).length := size_sig
  have hlen : (sigC bs).length = zSIG.length := rfl
  rw [show longC (bs.take 32) ++ longC (bs.drop 32) = sigC bs from rfl] at hbu
  generalize sigC bs = V at hbu hone hsz hlen ⊢
  generalize longC (bs.take 32) = V1 at hf1 hbu
  generalize longC (bs.drop 32) = V2 at hf2 hbu
  have HF1 := Lib.hid hf1
  have HF2 := Lib.hid hf2
  have HSL := Lib.hid s1
  have HSL2 := Lib.hid s4
  have HBU := Lib.hid hbu
  have HONE := Lib.hid hone
  have HLEN := Lib.hid hlen
  have HU := Lib.hid Tryz.underlying33
  have HAL := Lib.hid alloc_sig
  have HSZ := Lib.hid hsz
  generalize zSIG = Z at HAL HLEN
  clear hS hf1 hf2 s1 s2 s3 s4 r hsz hz hbu hone hlen
  go_enter Tryz.func59, Tryz.ntmps59
  go_upto_region 0 with fail
  refine wp_region_lit ?_
  refine wpList_allocT (o := ⟨some 2, .alloc 33, _, _, _, _⟩) rfl 33 Z (fun W => HAL.out W _ rfl _) ?_; intro w1 HK1 HB1
  rw [HS.out] at HK1 ⊢
  have HB1d := Lib.hid (show Below w.heap.size w w1.drew from ⟨HB1.out.os, HB1.out.tape, HB1.out.output, HB1.out.size, HB1.out.block⟩)
  go_upto_region 1 with fail
  refine wp_region_noPanic ?_
  refine wp_region_held_drew (S := (fun w' => True)) (by kernel_rfl) ?_ (fun hHeld => ?_)
  · ((try dsimp only) <;> (first | assumption | (go_keep; done)))
  refine wpAnyH_take (i := 0) (oi := ⟨some 3, _, _, _, _, _⟩) (v := ?_) rfl (by kernel_rfl) (by kernel_rfl) (by kernel_rfl) (fun _ _ _ h => False.elim h) (Or.inl ⟨by rfl, ?_⟩) (by assumption) ?_
  rotate_left
  · intro w hSw
    (try dsimp only at hSw)
    go_simp
    all_goals with_reducible rfl
  (try simp only [Act.put, List.setIfInBounds_toArray, List.set_cons_zero, List.set_cons_succ])
  refine wpAnyH_take (i := 1) (oi := ⟨some 4, _, _, _, _, _⟩) (v := .slice A 32 c) rfl (by kernel_rfl) (by kernel_rfl) (by kernel_rfl) (fun _ _ _ h => False.elim h) ?_ (by assumption) ?_
  · exact yieldsIf_sliceG (by rfl) 22 _ _ _ _ rfl _ 5 Tryz.underlying22 (fun W => by simpa [Act.eval, Act.put] using HSL2.out W)
  (try simp only [Act.put, List.setIfInBounds_toArray, List.set_cons_zero, List.set_cons_succ])
  refine wpAnyH_take (i := 3) (oi := ⟨some 6, _, _, _, _, _⟩) (v := ?_) rfl (by kernel_rfl) (by kernel_rfl) (by kernel_rfl) (fun _ _ _ h => False.elim h) (Or.inl ⟨by rfl, ?_⟩) (by assumption) ?_
  rotate_left
  · intro w hSw
    (try dsimp only at hSw)
    go_simp
    all_goals with_reducible rfl
  (try simp only [Act.put, List.setIfInBounds_toArray, List.set_cons_zero, List.set_cons_succ])
  refine wpAnyH_take (i := 4) (oi := ⟨some 7, _, _, _, _, _⟩) (v := .slice A' 32 (c - 32)) rfl (by kernel_rfl) (by kernel_rfl) (by kernel_rfl) (fun _ _ _ h => False.elim h) ?_ (by assumption) ?_
  · exact yieldsIf_sliceG (by rfl) 22 _ _ _ _ rfl _ 5 Tryz.underlying22 (fun W => by simpa [Act.eval, Act.put] using HSL.out W)
  (try simp only [Act.put, List.setIfInBounds_toArray, List.set_cons_zero, List.set_cons_succ])
  refine wpAnyH_ready (rs := [2]) (by kernel_rfl) (by simp) ?_
  refine AllReadyH.cons (o := ⟨some 5, _, _, _, _, _⟩) rfl (fun K hK => ?_) AllReadyH.nil
  go_simp
  (refine (HF1.out _ HB1d.out).mono ?_; rintro e w2 ⟨rfl, hB2⟩; have HK2 : Hid (Blk w2 S 33 Z) := Lib.hid (HK1.out.drew.keep (Keeps.of_below (M := fun _ => False) hB2) (fun h => h)); have HB2 := Lib.hid (HB1d.out.trans (hB2.mono HB1d.out.size)); clear hB2)
  (try go_wp2_with fail)
  refine hK.out _ _ ?_ (fun hHeld => ?_)
  · ((try dsimp only) <;> (first | assumption | (go_keep; done)))
  clear hK K
  (try simp only [Act.put, List.setIfInBounds_toArray, List.set_cons_zero, List.set_cons_succ])
  refine wpAnyH_ready (rs := [5]) (by kernel_rfl) (by simp) ?_
  refine AllReadyH.cons (o := ⟨some 8, _, _, _, _, _⟩) rfl (fun K hK => ?_) AllReadyH.nil
  go_simp
  (refine (HF2.out _ HB2.out).mono ?_; rintro e w3 ⟨rfl, hB3⟩; have HK3 : Hid (Blk w3 S 33 Z) := Lib.hid (HK2.out.keep (Keeps.of_below (M := fun _ => False) hB3) (fun h => h)); have HB3 := Lib.hid (HB2.out.trans (hB3.mono HB2.out.size)); clear hB3)
  (try go_wp2_with fail)
  refine hK.out _ _ ?_ (fun hHeld => ?_)
  · ((try dsimp only) <;> (first | assumption | (go_keep; done)))
  clear hK K
  (try simp only [Act.put, List.setIfInBounds_toArray, List.set_cons_zero, List.set_cons_succ])
  refine wpAnyH_take (i := 6) (oi := ⟨some 9, _, _, _, _, _⟩) (v := .agg V.toArray) rfl (by kernel_rfl) (by kernel_rfl) (by kernel_rfl) (fun _ _ _ h => False.elim h) ?_ (by assumption) ?_
  · exact yieldsIf_buildG (by rfl) 33 _ rfl _ (fun W => by simpa [Act.eval, Act.put] using HBU.out W)
  (try simp only [Act.put, List.setIfInBounds_toArray, List.set_cons_zero, List.set_cons_succ])
  refine wpAnyH_ready (rs := [7]) (by kernel_rfl) (by simp) ?_
  refine AllReadyH.cons (o := ⟨none, _, _, _, _, _⟩) rfl (fun K hK => ?_) AllReadyH.nil
  (refine step_overT rfl 33 _ _ rfl S V Z 33 rfl rfl HK3.out HLEN.out HSZ.out HONE.out ?_; intro w4 HK4 hk4; have HB4 := Lib.hid (below_keeps HB3.out hk4.out (Nat.le_refl _) (fun i hi => by rw [hi, HS.out]; exact Nat.le_refl _)); clear hk4)
  refine hK.out _ _ ?_ (fun hHeld => ?_)
  · ((try dsimp only) <;> (first | assumption | (go_keep; done)))
  clear hK K
  (try simp only [Act.put, List.setIfInBounds_toArray, List.set_cons_zero, List.set_cons_succ])
  refine wpAnyH_done (by kernel_rfl) ?_ _
  refine NoPanic.normal ?_
  go_wp2_with fail
  refine bodyPost_ret (results_rowT rfl _ S _ _ _ rfl HK4.out HU.out rfl HSZ.out) rfl ?_
  exact ⟨rfl, HB4.out⟩
def puzC (bs : List Int) : List Value := [Value.int .u8 (bs[0]?.getD 0), Value.int .u64 (told ((bs.drop 1).take 8))] ++ ((bs.drop 9).take 32).map (Value.int .u8)
set_option maxRecDepth 100000 in
set_option maxHeartbeats 4000000 in
theorem rdpuz_any (A : Option Addr) (n c : Nat) (bs : List Int) (w : World) (r : Rd w .u8 A n bs) (hn : 41 ≤ n) (l : n ≤ c) (hz : A = none → c = 0) :
    Calls Tryz.prog 47 #[.slice A n c] w fun e w' => e = .returned (.agg (puzC bs).toArray) ∧ Below w.heap.size w w' := by
  obtain ⟨S, hS⟩ : ∃ S, w.heap.size = S := ⟨_, rfl⟩
  have HS := Lib.hid hS
  have hbig := r.big
  obtain ⟨A1, s1, s2, s3⟩ := slice_from A n c 1 (by omega) l hz
  obtain ⟨A2, q1, q2, q3⟩ := slice_mid A n c 9 41 (by omega) (by omega) l hz
  obtain ⟨b, off, rfl, hb, hc⟩ := r.row (by omega)
  have c0 := hc 0 (by omega)
  rw [Nat.add_zero] at c0
  have hg := fun w1 (hB : Below w.heap.size w w1) => get_any A1 (n - 1) (c - 1) (bs.drop 1) 8 w1 (s2 w1 bs (r.below hB)) (by omega)
  have e1 : getE (n - 1) 8 = 0 := by unfold getE; rw [if_neg (by omega), if_neg (by omega)]
  have e2 : getN (bs.drop 1) (n - 1) 8 = told ((bs.drop 1).take 8) := by unfold getN; rw [if_pos e1]; rfl
  rw [e1, e2] at hg
  have hf2 := fun w1 (hB : Below w.heap.size w w1) => sum_any A2 (c - 9) ((bs.drop 9).take 32) w1 (q2 w1 bs (r.below hB))
  have hlen0 : (((bs.drop 9).take 32).map (Value.int .u8)).length = 32 := by have := r.len; simp; omega
  have hbu := build_puz (bs[0]?.getD 0) (told ((bs.drop 1).take 8)) (((bs.drop 9).take 32).map (Value.int .u8)) hlen0
  have hone : ∀ v ∈ puzC bs, v.oneCell' = true := fun v hv => by
    rcases List.mem_append.1 hv with h | h
    · simp at h; rcases h with rfl | rfl <;> rfl
    · exact one_ints v h
  have hlen : (puzC bs).length = zPUZ.length := by
    have : (puzC bs).length = 2 + (((bs.drop 9).take 32).map (Value.int .u8)).length := by simp [puzC]; omega
    rw [this, hlen0]; rfl
  have hsz : (Tryz.prog.info? 29).map (·.size) = some (puzC bs).length := by rw [hlen]; exact size_puz
  rw [show [Value.int .u8 (bs[0]?.getD 0), Value.int .u64 (told ((bs.drop 1).take 8))] ++ ((bs.drop 9).take 32).map (Value.int .u8) = puzC bs from rfl] at hbu
  generalize puzC bs = V at hbu hone hsz hlen ⊢
  generalize ((bs.drop 9).take 32).map (Value.int .u8) = V2 at hf2 hbu hlen0
  generalize told ((bs.drop 1).take 8) = y at hg hbu
  generalize bs[0]?.getD 0 = x at c0 hbu
  have hcx := fun w1 (hB : Below w.heap.size w w1) => (hB.cell (p := ⟨b, off, none⟩) hb).trans c0
  have HCX := Lib.hid hcx
  have HF1 := Lib.hid hg
  have HF2 := Lib.hid hf2
  have HSL2 := Lib.hid q1
  have HBU := Lib.hid hbu
  have HONE := Lib.hid hone
  have HLEN := Lib.hid hlen
  have HU := Lib.hid Tryz.underlying29
  have HAL := Lib.hid alloc_puz
  have HSZ := Lib.hid hsz
  have i0 : (0 : Int) < (n : Int) := by omega
  have i1 : 0 < n := by omega
  generalize zPUZ = Z at HAL HLEN
  have s1' : ∀ W, (Instr.slice 22 (.slice (some ⟨b, off, none⟩) n c) (some (.int .i64 1)) none none).run Tryz.prog W = .ok (.slice A1 (n - 1) (c - 1)) W := fun W => s1 W
  clear hS hg hf2 s1 s2 s3 q1 q2 q3 r hsz hz hbu hone hlen hlen0 hc hcx e1 e2 c0
  go_enter Tryz.func47, Tryz.ntmps47
  go_upto_region 0 with fail
  refine wp_region_lit ?_
  refine wpList_allocT (o := ⟨some 2, .alloc 29, _, _, _, _⟩) rfl 29 Z (fun W => HAL.out W _ rfl _) ?_; intro w1 HK1 HB1
  rw [HS.out] at HK1 ⊢
  go_wp2_with fail
  refine (HF1.out _ HB1.out).mono ?_; rintro e w2 ⟨rfl, hB2⟩
  have HK2 : Hid (Blk w2 S 29 Z) := Lib.hid (HK1.out.keep (Keeps.of_below (M := fun _ => False) hB2) (fun h => h))
  have HB2 := Lib.hid (HB1.out.trans (hB2.mono HB1.out.size))
  have HB2d := Lib.hid (show Below w.heap.size w w2.drew from ⟨HB2.out.os, HB2.out.tape, HB2.out.output, HB2.out.size, HB2.out.block⟩)
  clear hB2
  have d0 := HCX.out w2 HB2.out
  go_upto_region 2 with fail
  refine wp_region_noPanic ?_
  refine wp_region_held_drew (S := (fun w' => w'.cell? ⟨b, off, none⟩ = some (.int .u8 x))) (by kernel_rfl) ?_ (fun hHeld => ?_)
  · ((try dsimp only) <;> (first | assumption | (go_keep; done)))
  refine wpAnyH_take (i := 0) (oi := ⟨some 11, _, _, _, _, _⟩) (v := ?_) rfl (by kernel_rfl) (by kernel_rfl) (by kernel_rfl) (fun _ _ _ h => False.elim h) (Or.inl ⟨by rfl, ?_⟩) (by assumption) ?_
  rotate_left
  · intro w hSw
    (try dsimp only at hSw)
    go_simp
    all_goals with_reducible rfl
  (try simp only [Act.put, List.setIfInBounds_toArray, List.set_cons_zero, List.set_cons_succ])
  refine wpAnyH_take (i := 1) (oi := ⟨some 12, _, _, _, _, _⟩) (v := ?_) rfl (by kernel_rfl) (by kernel_rfl) (by kernel_rfl) (fun _ _ _ h => False.elim h) (Or.inl ⟨by rfl, ?_⟩) (by assumption) ?_
  rotate_left
  · intro w hSw
    (try dsimp only at hSw)
    go_simp
    all_goals with_reducible rfl
  (try simp only [Act.put, List.setIfInBounds_toArray, List.set_cons_zero, List.set_cons_succ])
  refine wpAnyH_take (i := 2) (oi := ⟨some 13, _, _, _, _, _⟩) (v := ?_) rfl (by kernel_rfl) (by kernel_rfl) (by kernel_rfl) (fun _ _ _ h => False.elim h) (Or.inl ⟨by rfl, ?_⟩) (by assumption) ?_
  rotate_left
  · intro w hSw
    (try dsimp only at hSw)
    go_simp
    all_goals with_reducible rfl
  (try simp only [Act.put, List.setIfInBounds_toArray, List.set_cons_zero, List.set_cons_succ])
  refine wpAnyH_take (i := 3) (oi := ⟨some 14, _, _, _, _, _⟩) (v := ?_) rfl (by kernel_rfl) (by kernel_rfl) (by kernel_rfl) (fun _ _ _ h => False.elim h) (Or.inl ⟨by rfl, ?_⟩) (by assumption) ?_
  rotate_left
  · intro w hSw
    (try dsimp only at hSw)
    go_simp
    all_goals with_reducible rfl
  (try simp only [Act.put, List.setIfInBounds_toArray, List.set_cons_zero, List.set_cons_succ])
  refine wpAnyH_take (i := 4) (oi := ⟨some 15, _, _, _, _, _⟩) (v := ?_) rfl (by kernel_rfl) (by kernel_rfl) (by kernel_rfl) (fun _ _ _ h => False.elim h) (Or.inl ⟨by rfl, ?_⟩) (by assumption) ?_
  rotate_left
  · intro w hSw
    (try dsimp only at hSw)
    go_simp
    all_goals with_reducible rfl
  (try simp only [Act.put, List.setIfInBounds_toArray, List.set_cons_zero, List.set_cons_succ])
  refine wpAnyH_take (i := 5) (oi := ⟨some 16, _, _, _, _, _⟩) (v := .slice A2 32 (c - 9)) rfl (by kernel_rfl) (by kernel_rfl) (by kernel_rfl) (fun _ _ _ h => False.elim h) ?_ (by assumption) ?_
  · exact yieldsIf_sliceG (by rfl) 22 _ _ _ _ rfl _ 5 Tryz.underlying22 (fun W => by simpa [Act.eval, Act.put] using HSL2.out W)
  (try simp only [Act.put, List.setIfInBounds_toArray, List.set_cons_zero, List.set_cons_succ])
  refine wpAnyH_ready (rs := [6]) (by kernel_rfl) (by simp) ?_
  refine AllReadyH.cons (o := ⟨some 17, _, _, _, _, _⟩) rfl (fun K hK => ?_) AllReadyH.nil
  go_simp
  (refine (HF2.out _ HB2d.out).mono ?_; rintro e w3 ⟨rfl, hB3⟩; have HK3 : Hid (Blk w3 S 29 Z) := Lib.hid (HK2.out.drew.keep (Keeps.of_below (M := fun _ => False) hB3) (fun h => h)); have HB3 := Lib.hid (HB2d.out.trans (hB3.mono HB2d.out.size)); clear hB3; have d1 := HCX.out w3 HB3.out)
  (try go_wp2_with fail)
  refine hK.out _ _ ?_ (fun hHeld => ?_)
  · ((try dsimp only) <;> (first | assumption | (go_keep; done)))
  clear hK K
  (try simp only [Act.put, List.setIfInBounds_toArray, List.set_cons_zero, List.set_cons_succ])
  refine wpAnyH_take (i := 7) (oi := ⟨some 18, _, _, _, _, _⟩) (v := .agg V.toArray) rfl (by kernel_rfl) (by kernel_rfl) (by kernel_rfl) (fun _ _ _ h => False.elim h) ?_ (by assumption) ?_
  · exact yieldsIf_buildG (by rfl) 29 _ rfl _ (fun W => by simpa [Act.eval, Act.put] using HBU.out W)
  (try simp only [Act.put, List.setIfInBounds_toArray, List.set_cons_zero, List.set_cons_succ])
  refine wpAnyH_ready (rs := [8]) (by kernel_rfl) (by simp) ?_
  refine AllReadyH.cons (o := ⟨none, _, _, _, _, _⟩) rfl (fun K hK => ?_) AllReadyH.nil
  (refine step_overT rfl 29 _ _ rfl S V Z 29 rfl rfl HK3.out HLEN.out HSZ.out HONE.out ?_; intro w4 HK4 hk4; have HB4 := Lib.hid (below_keeps HB3.out hk4.out (Nat.le_refl _) (fun i hi => by rw [hi, HS.out]; exact Nat.le_refl _)); clear hk4; have d2 := HCX.out w4 HB4.out)
  refine hK.out _ _ ?_ (fun hHeld => ?_)
  · ((try dsimp only) <;> (first | assumption | (go_keep; done)))
  clear hK K
  (try simp only [Act.put, List.setIfInBounds_toArray, List.set_cons_zero, List.set_cons_succ])
  refine wpAnyH_done (by kernel_rfl) ?_ _
  refine NoPanic.normal ?_
  go_wp2_with fail
  refine bodyPost_ret (results_rowT rfl _ S _ _ _ rfl HK4.out HU.out rfl HSZ.out) rfl ?_
  exact ⟨rfl, HB4.out⟩
def solC (bs : List Int) : List Value := puzC bs ++ (bs.drop 41).map (Value.int .u8)
set_option maxRecDepth 100000 in
set_option maxHeartbeats 4000000 in
theorem rdsol_any (A : Option Addr) (c : Nat) (bs : List Int) (w : World) (r : Rd w .u8 A 73 bs) (l : 73 ≤ c) (hz : A = none → c = 0) :
    Calls Tryz.prog 51 #[.slice A 73 c] w fun e w' => e = .returned (.agg (solC bs).toArray) ∧ Below w.heap.size w w' := by
  obtain ⟨S, hS⟩ : ∃ S, w.heap.size = S := ⟨_, rfl⟩
  have HS := Lib.hid hS
  obtain ⟨A', s1, s2, s3⟩ := slice_from A 73 c 41 (by omega) l hz
  have hf1 := fun w1 (hB : Below w.heap.size w w1) => rdpuz_any A 73 c bs w1 (r.below hB) (by omega) l hz
  have hf2 := fun w1 (hB : Below w.heap.size w w1) => sum_any A' (c - 41) (bs.drop 41) w1 (s2 w1 bs (r.below hB))
  have l1 : (puzC bs).length = 34 := by have := r.len; simp [puzC]; omega
  have l2 : ((bs.drop 41).map (Value.int .u8)).length = 32 := by have := r.len; simp; omega
  have hbu := build_sol (puzC bs) ((bs.drop 41).map (Value.int .u8)) l1 l2
  have hone : ∀ v ∈ solC bs, v.oneCell' = true := fun v hv => by
    rcases List.mem_append.1 hv with h | h
    · rcases List.mem_append.1 h with h | h
      · simp at h; rcases h with rfl | rfl <;> rfl
      · exact one_ints v h
    · exact one_ints v h
  have hlen : (solC bs).length = zSOL.length := by rw [solC, List.length_append, l1, l2]; rfl
  have hsz : (Tryz.prog.info? 87).map (·.size) = some (solC bs).length := by rw [hlen]; exact size_sol
  rw [show puzC bs ++ (bs.drop 41).map (Value.int .u8) = solC bs from rfl] at hbu
  generalize solC bs = V at hbu hone hsz hlen ⊢
  generalize puzC bs = V1 at hf1 hbu l1
  generalize (bs.drop 41).map (Value.int .u8) = V2 at hf2 hbu l2
  have HF1 := Lib.hid hf1
  have HF2 := Lib.hid hf2
  have HSL := Lib.hid s1
  have HBU := Lib.hid hbu
  have HONE := Lib.hid hone
  have HLEN := Lib.hid hlen
  have HU := Lib.hid Tryz.underlying87
  have HAL := Lib.hid alloc_sol
  have HSZ := Lib.hid hsz
  generalize zSOL = Z at HAL HLEN
  clear hS hf1 hf2 s1 s2 s3 r hsz hz hbu hone hlen l1 l2
  go_enter Tryz.func51, Tryz.ntmps51
  go_upto_region 0 with fail
  refine wp_region_lit ?_
  refine wpList_allocT (o := ⟨some 2, .alloc 87, _, _, _, _⟩) rfl 87 Z (fun W => HAL.out W _ rfl _) ?_; intro w1 HK1 HB1
  rw [HS.out] at HK1 ⊢
  have HB1d := Lib.hid (show Below w.heap.size w w1.drew from ⟨HB1.out.os, HB1.out.tape, HB1.out.output, HB1.out.size, HB1.out.block⟩)
  go_upto_region 1 with fail
  refine wp_region_noPanic ?_
  refine wp_region_held_drew (S := (fun w' => True)) (by kernel_rfl) ?_ (fun hHeld => ?_)
  · ((try dsimp only) <;> (first | assumption | (go_keep; done)))
  refine wpAnyH_take (i := 0) (oi := ⟨some 3, _, _, _, _, _⟩) (v := ?_) rfl (by kernel_rfl) (by kernel_rfl) (by kernel_rfl) (fun _ _ _ h => False.elim h) (Or.inl ⟨by rfl, ?_⟩) (by assumption) ?_
  rotate_left
  · intro w hSw
    (try dsimp only at hSw)
    go_simp
    all_goals with_reducible rfl
  (try simp only [Act.put, List.setIfInBounds_toArray, List.set_cons_zero, List.set_cons_succ])
  refine wpAnyH_take (i := 2) (oi := ⟨some 5, _, _, _, _, _⟩) (v := ?_) rfl (by kernel_rfl) (by kernel_rfl) (by kernel_rfl) (fun _ _ _ h => False.elim h) (Or.inl ⟨by rfl, ?_⟩) (by assumption) ?_
  rotate_left
  · intro w hSw
    (try dsimp only at hSw)
    go_simp
    all_goals with_reducible rfl
  (try simp only [Act.put, List.setIfInBounds_toArray, List.set_cons_zero, List.set_cons_succ])
  refine wpAnyH_take (i := 3) (oi := ⟨some 6, _, _, _, _, _⟩) (v := .slice A' 32 (c - 41)) rfl (by kernel_rfl) (by kernel_rfl) (by kernel_rfl) (fun _ _ _ h => False.elim h) ?_ (by assumption) ?_
  · exact yieldsIf_sliceG (by rfl) 22 _ _ _ _ rfl _ 5 Tryz.underlying22 (fun W => by simpa [Act.eval, Act.put] using HSL.out W)
  (try simp only [Act.put, List.setIfInBounds_toArray, List.set_cons_zero, List.set_cons_succ])
  refine wpAnyH_ready (rs := [1]) (by kernel_rfl) (by simp) ?_
  refine AllReadyH.cons (o := ⟨some 4, _, _, _, _, _⟩) rfl (fun K hK => ?_) AllReadyH.nil
  go_simp
  (refine (HF1.out _ HB1d.out).mono ?_; rintro e w2 ⟨rfl, hB2⟩; have HK2 : Hid (Blk w2 S 87 Z) := Lib.hid (HK1.out.drew.keep (Keeps.of_below (M := fun _ => False) hB2) (fun h => h)); have HB2 := Lib.hid (HB1d.out.trans (hB2.mono HB1d.out.size)); clear hB2)
  (try go_wp2_with fail)
  refine hK.out _ _ ?_ (fun hHeld => ?_)
  · ((try dsimp only) <;> (first | assumption | (go_keep; done)))
  clear hK K
  (try simp only [Act.put, List.setIfInBounds_toArray, List.set_cons_zero, List.set_cons_succ])
  refine wpAnyH_ready (rs := [4]) (by kernel_rfl) (by simp) ?_
  refine AllReadyH.cons (o := ⟨some 7, _, _, _, _, _⟩) rfl (fun K hK => ?_) AllReadyH.nil
  go_simp
  (refine (HF2.out _ HB2.out).mono ?_; rintro e w3 ⟨rfl, hB3⟩; have HK3 : Hid (Blk w3 S 87 Z) := Lib.hid (HK2.out.keep (Keeps.of_below (M := fun _ => False) hB3) (fun h => h)); have HB3 := Lib.hid (HB2.out.trans (hB3.mono HB2.out.size)); clear hB3)
  (try go_wp2_with fail)
  refine hK.out _ _ ?_ (fun hHeld => ?_)
  · ((try dsimp only) <;> (first | assumption | (go_keep; done)))
  clear hK K
  (try simp only [Act.put, List.setIfInBounds_toArray, List.set_cons_zero, List.set_cons_succ])
  refine wpAnyH_take (i := 5) (oi := ⟨some 8, _, _, _, _, _⟩) (v := .agg V.toArray) rfl (by kernel_rfl) (by kernel_rfl) (by kernel_rfl) (fun _ _ _ h => False.elim h) ?_ (by assumption) ?_
  · exact yieldsIf_buildG (by rfl) 87 _ rfl _ (fun W => by simpa [Act.eval, Act.put] using HBU.out W)
  (try simp only [Act.put, List.setIfInBounds_toArray, List.set_cons_zero, List.set_cons_succ])
  refine wpAnyH_ready (rs := [6]) (by kernel_rfl) (by simp) ?_
  refine AllReadyH.cons (o := ⟨none, _, _, _, _, _⟩) rfl (fun K hK => ?_) AllReadyH.nil
  (refine step_overT rfl 87 _ _ rfl S V Z 87 rfl rfl HK3.out HLEN.out HSZ.out HONE.out ?_; intro w4 HK4 hk4; have HB4 := Lib.hid (below_keeps HB3.out hk4.out (Nat.le_refl _) (fun i hi => by rw [hi, HS.out]; exact Nat.le_refl _)); clear hk4)
  refine hK.out _ _ ?_ (fun hHeld => ?_)
  · ((try dsimp only) <;> (first | assumption | (go_keep; done)))
  clear hK K
  (try simp only [Act.put, List.setIfInBounds_toArray, List.set_cons_zero, List.set_cons_succ])
  refine wpAnyH_done (by kernel_rfl) ?_ _
  refine NoPanic.normal ?_
  go_wp2_with fail
  refine bodyPost_ret (results_rowT rfl _ S _ _ _ rfl HK4.out HU.out rfl HSZ.out) rfl ?_
  exact ⟨rfl, HB4.out⟩
end Go.Proofs.YtgecfcdafbedaaaGreat
