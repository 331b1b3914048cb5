/- A Book's marks are written into all its lists of one kind (Param). Printed by mkbk.py. -/
import Derived.Test.YtgecfcdafbedaaaGreatDoorZRSpotsPlayUpto30
namespace Go.Proofs.YtgecfcdafbedaaaGreatDoor
open Go.RowKit
set_option linter.unusedSimpArgs false
set_option linter.unusedVariables false

def kParam : Kd := ⟨10, 141, 144, 2, fun n => [.int .u16 (n : Int), .slice none 0 0]⟩
theorem okParam : kParam.Ok := ⟨by decide, by decide, by decide, rfl, fun _ => rfl, fun n v hv => by
  simp only [kParam, List.mem_cons, List.not_mem_nil, or_false] at hv
  rcases hv with rfl | rfl <;> rfl, by unfold Far; decide⟩
theorem info_Param : (Tryz.prog.info? 144).map (fun i => (i.zero, i.size, i.bytes)) = some (some (.agg #[.int .u16 0, .slice none 0 0]), 2, 32) := by kernel_rfl
theorem size_hParam : (Tryz.prog.info? 141).map (·.size) = some 3 := by kernel_rfl
set_option maxRecDepth 100000 in
theorem markParam_any (n : Nat) (w : World) (hn : n ≤ 30000) : Calls Tryz.prog 99 #[.int .i64 (n : Int)] w fun e w' => e = .returned (.agg #[.int .u16 (n : Int), .slice none 0 0]) ∧ Below w.heap.size w w' := by
  have hw : IntKind.u16.wrap (n : Int) = n := IntWalk.u16_in _ (by omega)
  go_enter Tryz.func99, Tryz.ntmps99
  go_wp2_with fail
  exact bodyPost_ret (v := (.agg #[.int .u16 (n : Int), .slice none 0 0])) (by simp [results, Tryz.results99, go_sem]) rfl ⟨rfl, (Below.refl _ _).alloc (Nat.le_refl _) _⟩

set_option maxRecDepth 100000 in
set_option maxHeartbeats 8000000 in
theorem fillParam_any (base B m : Nat) (H : Nat → List Hb) (w : World) (hb : BookAt base w B m H) (hrow : ∀ (i : Nat) (h : Hb), (H 10)[i]? = some h → ∃ cs, RowIs kParam base w h cs) (hf : Fine (H 10)) :
    Calls Tryz.prog 46 #[.pointer (some ⟨B, 0, none⟩)] w fun e w' => e = .returned (.tuple #[]) ∧ (∀ (i : Nat) (h : Hb), (H 10)[i]? = some h → RowIs kParam base w' h (marksG kParam h.n h.len)) ∧ Keeps (ByTy base 144 w) w w' := by
  have hu : Tryz.prog.underlying 141 = some (.struct _) := Tryz.underlying141
  have hty : ∀ (i : Nat) (h : Hb), (H 10)[i]? = some h → ∀ k, h.l.ownBlock = some k → k < w.heap.size ∧ ByTy base 144 w k := fun i h hi k hk => by
    obtain ⟨cs, hc⟩ := hrow i h hi
    obtain ⟨h1, h2, h3⟩ := hc.ty hk
    exact ⟨h2, .inl ⟨h1, h3⟩⟩
  have HB_ := Lib.hid hb
  have HROW := Lib.hid hrow
  have HTY := Lib.hid hty
  have HF := Lib.hid hf
  have HU := Lib.hid hu
  obtain ⟨N, hN⟩ : ∃ N, (H 10).length = N := ⟨_, rfl⟩
  have HN := Lib.hid hN
  have hfew : N ≤ 30000 := by rw [← hN]; exact Nat.le_trans (hb.few 10 (by omega) (by omega)) hb.most
  clear hb hrow hf hu hN hty
  go_enter Tryz.func46, Tryz.ntmps46
  go_wp2_with fail
  go_loopw [2] (fun s wr => ∃ j : Nat, j ≤ N ∧ s = .int .i64 j ∧ (∀ (i : Nat) (h : Hb), i < j → (H 10)[i]? = some h → RowIs kParam base wr h (marksG kParam h.n h.len)) ∧ (∀ (i : Nat) (h : Hb), j ≤ i → (H 10)[i]? = some h → ∃ cs, RowIs kParam base wr h cs) ∧ Keeps (ByTy base 144 w) w wr) (fun s _ => N - (intOf s).toNat)
  case atStart => exact ⟨0, Nat.zero_le _, rfl, fun i h hi => absurd hi (by omega), fun i h _ hi => HROW.out i h hi, Keeps.refl _ _⟩
  case round =>
    obtain ⟨j, hj, rfl, hdone, htodo, hkp⟩ := hrel
    have hbk := HB_.out.keepFar hkp (fun _ h => h) okParam.far
    by_cases hlt : j < N
    · obtain ⟨h, hh⟩ : ∃ h, (H 10)[j]? = some h := ⟨_, List.getElem?_eq_getElem (by rw [HN.out]; exact hlt)⟩
      obtain ⟨gS, cS, hB1, hcS, hgS, hbS, hcurS, hrowS⟩ := hbk.at_ (by omega) (by omega) hh
      obtain ⟨xs, hxs⟩ := htodo j h (Nat.le_refl _) hh
      have hxl := hxs.len
      have hn := HF.out.n j h hh
      have hlen := HF.out.len j h hh
      rw [HN.out] at hB1
      have hs3 : (Tryz.prog.info? 141).map (·.size) = some (hbC h).length := size_hParam
      have hs4 : (Tryz.prog.info? 141).map (·.size) = some (hbC h).toArray.size := size_hParam
      have h1 : (hbC h).toArray.all (·.oneCell') = true := all_oneCell_toArray (hbC_one h)
      have HK4 : Hid (Blk (wr.alloc (.cells zHb.toArray 141)) wr.heap.size 141 zHb) := Lib.hid (Blk.new wr 141 zHb)
      have HTH : Hid ((wr.alloc (.cells zHb.toArray 141)).there wr.heap.size 0 (hbC h).toArray.size) := Lib.hid (HK4.out.there 0 _ (by simp [zHb, hbC]))
      have hk5 : Blk ((wr.alloc (.cells zHb.toArray 141)).setCells wr.heap.size 0 (hbC h)) wr.heap.size 141 (hbC h) := by
        have := Blk.setCells (hbC h) 0 _ _ HK4.out (by simp [zHb, hbC])
        rwa [splice_whole _ _ (by simp [zHb, hbC])] at this
      have hB5 : Below wr.heap.size wr ((wr.alloc (.cells zHb.toArray 141)).setCells wr.heap.size 0 (hbC h)) := below_keeps (new_belowB _ _) (Keeps.setCells (g := wr.heap.size) _ 0 _) (Nat.le_refl _) (fun i hi => by have e : i = wr.heap.size := hi; omega)
      obtain ⟨w5, hw5⟩ : ∃ w5, (wr.alloc (.cells zHb.toArray 141)).setCells wr.heap.size 0 (hbC h) = w5 := ⟨_, rfl⟩
      rw [hw5] at hk5 hB5
      have HW5 := Lib.hid hw5
      have HX5 := Lib.hid (hxs.below hB5)
      have HK5 := Lib.hid hk5
      have HWZ : Hid (w.heap.size ≤ w5.heap.size) := Lib.hid (Nat.le_trans hkp.size hB5.size)
      have HROWS := Lib.hid (hrowS _ rfl)
      have HS3 := Lib.hid hs3
      have HS4 := Lib.hid hs4
      have H1 := Lib.hid h1
      have HH := Lib.hid hh
      have HXL : Hid (xs.length = h.len * kParam.q) := Lib.hid hxl
      have HDONE := Lib.hid (fun (i : Nat) (h2 : Hb) (hi : i < j) (hi2 : (H 10)[i]? = some h2) => (hdone i h2 hi hi2).below hB5)
      have HTODO : Hid (∀ (i : Nat) (h2 : Hb), j ≤ i → (H 10)[i]? = some h2 → ∃ cs, RowIs kParam base w5 h2 cs) := Lib.hid (fun i h2 hi hi2 => by
        obtain ⟨ys, hys⟩ := htodo i h2 hi hi2
        exact ⟨ys, hys.below hB5⟩)
      have HKP := Lib.hid (hkp.below hB5)
      have c0 : w5.cell? ⟨wr.heap.size, 0, none⟩ = some (.slice h.A h.len h.cap) := HK5.out.cell 0
      have c2 : w5.cell? ⟨wr.heap.size, 2, none⟩ = some (.int .i64 (h.n : Int)) := HK5.out.cell 2
      have HG : Hid (∀ k, h.l.ownBlock = some k → k ≠ wr.heap.size) := Lib.hid (fun k hk => by have := (hxs.ty hk).2.1; omega)
      obtain ⟨Y, hY⟩ : ∃ Y, hbC h = Y := ⟨_, rfl⟩
      obtain ⟨Z, hZ⟩ : ∃ Z, zHb = Z := ⟨_, rfl⟩
      have HZ := Lib.hid hZ
      rw [hY] at HROWS HS3 HS4 H1 HTH HW5
      rw [hZ] at HTH HW5
      have j0 : (0 : Int) ≤ (j : Int) := by omega
      have j1 : (j : Int) < (N : Int) := by omega
      have jadd : IntKind.i64.wrap ((j : Int) + 1) = (j : Int) + 1 := IntWalk.i64_in _ (by omega)
      clear hk5 hB5 hw5 hY hZ hbk hrowS hcurS hxs hs3 hs4 h1 hh hdone htodo hkp HK4 hxl
      go_wp2_with (first
        | (refine wpList_load_mid rfl 141 _ rfl gS (j * 3) rfl Y _ HROWS.out HU.out rfl HS3.out ?_)
        | (refine wpList_value (o := ⟨some 3, .alloc 141, _, _, _, _⟩) (v := .pointer (some ⟨wr.heap.size, 0, none⟩)) (w' := wr.alloc (.cells zHb.toArray 141)) rfl (by kernel_rfl) ?_; rw [HZ.out])
        | (refine wpList_store_mid rfl 141 _ _ rfl wr.heap.size 0 Y.toArray rfl rfl HTH.out HS4.out H1.out ?_; rw [show Y.toArray.toList = Y from rfl, HW5.out]))
      clear HW5 HTH HROWS hgS hB1
      have HGZ : Hid (wr.heap.size < w5.heap.size) := Lib.hid HK5.out.lt
      generalize wr.heap.size = G at *
      clear wr
      go_loopw [4] (fun s wr => ∃ k : Nat, k ≤ h.len ∧ s = .int .i64 k ∧ RowIs kParam base wr h (marksG kParam h.n k ++ xs.drop (k * kParam.q)) ∧ Keeps (fun x => h.l.ownBlock = some x) w5 wr) (fun s wr => h.len - (intOf s).toNat)
      case atStart => exact ⟨0, Nat.zero_le _, rfl, by rw [show marksG kParam h.n 0 ++ xs.drop (0 * kParam.q) = xs by simp [marksG]]; exact HX5.out, Keeps.refl _ _⟩
      case round =>
        obtain ⟨k, hk, rfl, hrk, hkk⟩ := hrel
        have hkq := HK5.out.keep hkk (fun hm => HG.out _ hm rfl)
        have q0 : wr.cell? ⟨G, 0, none⟩ = some (.slice h.A h.len h.cap) := hkq.cell 0
        have q2 : wr.cell? ⟨G, 2, none⟩ = some (.int .i64 (h.n : Int)) := hkq.cell 2
        by_cases hkl : k < h.len
        · obtain ⟨g, cg, hl, hlc, hbg, hgl, hcell, hfz⟩ := hrk.at_ (by omega)
          have hl' : Value.slice h.A h.len h.cap = .slice (some ⟨g, 0, none⟩) h.len cg := hl
          injection hl' with hA _ hcg
          have hob : h.l.ownBlock = some g := by rw [hl]; rfl
          have hgG : g ≠ G := HG.out g hob
          have hrl : (marksG kParam h.n k ++ xs.drop (k * kParam.q)).length = h.len * 2 := hrk.len
          have hq : kParam.q = 2 := rfl
          have hml : (marksG kParam h.n k).length = k * 2 := marksG_len okParam h.n k
          have hput : ∀ W, Keeps (fun x => h.l.ownBlock = some x) w5 W → RowIs kParam base W h (marksG kParam h.n k ++ xs.drop (k * kParam.q)) → RowIs kParam base (W.setCells g (k * 2) (kParam.mark h.n)) h (marksG kParam h.n (k + 1) ++ xs.drop ((k + 1) * kParam.q)) ∧ Keeps (fun x => h.l.ownBlock = some x) w5 (W.setCells g (k * 2) (kParam.mark h.n)) := fun W hKW hRW => by
            refine ⟨?_, hKW.trans ((Keeps.setCells _ _ _).mono (fun x hx => by rw [hx]; exact hob))⟩
            have e := marksG_splice okParam h.n k xs (by rw [HXL.out, hq]; exact Nat.mul_le_mul_right _ hkl)
            have hRW' : RowG kParam.E kParam.q base W (.slice (some ⟨g, 0, none⟩) h.len cg) h.len (marksG kParam h.n k ++ xs.drop (k * kParam.q)) := by rw [← hl]; exact hRW
            have := hRW'.set (vs := kParam.mark h.n) (o := k * kParam.q) (by rw [okParam.len, hrl, hq]; rw [← Nat.succ_mul]; exact Nat.mul_le_mul_right _ hkl)
            rw [e] at this
            show RowG kParam.E kParam.q base _ h.l h.len _
            rw [hl]
            exact this
          obtain ⟨M, hM⟩ : ∃ M, kParam.mark h.n = M := ⟨_, rfl⟩
          have HM := Lib.hid hM
          have hput' : ∀ W, Below wr.heap.size wr W → RowIs kParam base (W.setCells g (k * 2) M) h (marksG kParam h.n (k + 1) ++ xs.drop ((k + 1) * kParam.q)) ∧ Keeps (fun x => h.l.ownBlock = some x) w5 (W.setCells g (k * 2) M) ∧ W.there g (k * 2) M.toArray.size ∧ W.cell? ⟨G, 0, none⟩ = some (.slice h.A h.len h.cap) ∧ W.cell? ⟨G, 2, none⟩ = some (.int .i64 (h.n : Int)) ∧ (W.setCells g (k * 2) M).cell? ⟨G, 0, none⟩ = some (.slice h.A h.len h.cap) ∧ (W.setCells g (k * 2) M).cell? ⟨G, 2, none⟩ = some (.int .i64 (h.n : Int)) := fun W hBW => by
            have hkW := hkq.below hBW hkq.lt
            have hkS : Blk (W.setCells g (k * 2) M) G 141 (hbC h) := hkW.keep (Keeps.setCells _ _ _) (fun e => hgG e.symm)
            have hrW := hrk.below hBW
            rw [← hM]
            refine ⟨(hput W (hkk.below hBW) hrW).1, (hput W (hkk.below hBW) hrW).2, fun i hi => ?_, hkW.cell 0, hkW.cell 2, by rw [hM]; exact hkS.cell 0, by rw [hM]; exact hkS.cell 2⟩
            obtain ⟨g', cg', hl2, _, _, _, hcell', hfz'⟩ := hrW.at_ (by omega)
            have hgg : g' = g := by rw [hl] at hl2; injection hl2 with e _ _; injection e with e; injection e with e _ _; exact e.symm
            subst hgg
            have hi2 : i < 2 := by have := okParam.len h.n; rw [List.size_toArray] at hi; omega
            have hkm : k * 2 + 2 ≤ h.len * 2 := by rw [← Nat.succ_mul]; exact Nat.mul_le_mul_right _ hkl
            obtain ⟨u, hu⟩ : ∃ u, (marksG kParam h.n k ++ xs.drop (k * kParam.q))[k * 2 + i]? = some u := ⟨_, List.getElem?_eq_getElem (by omega)⟩
            exact ⟨by rw [hcell' _ u hu]; rfl, hfz' _⟩
          have hs5 : (Tryz.prog.info? 144).map (·.size) = some M.toArray.size := by rw [← hM]; kernel_rfl
          have h6 : M.toArray.all (·.oneCell') = true := by rw [← hM]; exact all_oneCell_toArray (okParam.one h.n)
          have hmv : ((.agg #[.int .u16 (h.n : Int), .slice none 0 0]) : Value) = .agg M.toArray := by rw [← hM]; rfl
          have hmc : ∀ W, Calls Tryz.prog 99 #[.int .i64 (h.n : Int)] W fun e w' => e = .returned (.agg M.toArray) ∧ Below W.heap.size W w' := fun W => by
            have := markParam_any h.n W hn.2
            rwa [hmv] at this
          have HMC := Lib.hid hmc
          have HS5 := Lib.hid hs5
          have H6 := Lib.hid h6
          have HPUT := Lib.hid hput'
          have hz0 : Below wr.heap.size wr wr.drew := drew_belowB wr
          have HZ0 := Lib.hid hz0
          have k0 : (0 : Int) ≤ (k : Int) := by omega
          have k1 : (k : Int) < (h.len : Int) := by omega
          have kadd : IntKind.i64.wrap ((k : Int) + 1) = (k : Int) + 1 := IntWalk.i64_in _ (by omega)
          rw [hA] at q0 HPUT
          clear hrk hkk hkq hcell hfz hob hbg hgl hput hrl hml
          clear hput' hs5 h6 hmv hM hmc hz0
          go_wp2_with fail
          refine wp_region_noPanic ?_
          refine wp_region_held_drew (S := (fun w' => w'.cell? ⟨G, 0, none⟩ = some (.slice (some ⟨g, 0, none⟩) h.len h.cap) ∧ w'.cell? ⟨G, 2, none⟩ = some (.int .i64 (h.n : Int)))) (by kernel_rfl) ?_ (fun hHeld => ?_)
          · ((try dsimp only); refine ⟨?_, ?_⟩ <;> (first | assumption | (go_keep; done)))
          refine wpAnyH_take (i := 0) (oi := ⟨some 28, _, _, _, _, _⟩) (v := ?_) rfl (by kernel_rfl) (by kernel_rfl) (by kernel_rfl) (fun _ _ _ h => False.elim h) (Or.inl ⟨by rfl, ?_⟩) (by assumption) ?_
          rotate_left
          · intro w hSw
            (try dsimp only at hSw)
            go_simp
            all_goals with_reducible rfl
          (try simp only [Act.put, List.setIfInBounds_toArray, List.set_cons_zero, List.set_cons_succ])
          refine wpAnyH_take (i := 1) (oi := ⟨some 29, _, _, _, _, _⟩) (v := ?_) rfl (by kernel_rfl) (by kernel_rfl) (by kernel_rfl) (fun _ _ _ h => False.elim h) (Or.inl ⟨by rfl, ?_⟩) (by assumption) ?_
          rotate_left
          · intro w hSw
            (try dsimp only at hSw)
            go_simp
            all_goals with_reducible rfl
          (try simp only [Act.put, List.setIfInBounds_toArray, List.set_cons_zero, List.set_cons_succ])
          refine wpAnyH_take (i := 2) (oi := ⟨some 30, _, _, _, _, _⟩) (v := ?_) rfl (by kernel_rfl) (by kernel_rfl) (by kernel_rfl) (fun _ _ _ h => False.elim h) (Or.inl ⟨by rfl, ?_⟩) (by assumption) ?_
          rotate_left
          · intro w hSw
            (try dsimp only at hSw)
            go_simp
            all_goals with_reducible rfl
          (try simp only [Act.put, List.setIfInBounds_toArray, List.set_cons_zero, List.set_cons_succ])
          refine wpAnyH_take (i := 3) (oi := ⟨some 31, _, _, _, _, _⟩) (v := ?_) rfl (by kernel_rfl) (by kernel_rfl) (by kernel_rfl) (fun _ _ _ h => False.elim h) (Or.inl ⟨by rfl, ?_⟩) (by assumption) ?_
          rotate_left
          · intro w hSw
            (try dsimp only at hSw)
            go_simp
            all_goals with_reducible rfl
          (try simp only [Act.put, List.setIfInBounds_toArray, List.set_cons_zero, List.set_cons_succ])
          refine wpAnyH_take (i := 4) (oi := ⟨some 32, _, _, _, _, _⟩) (v := ?_) rfl (by kernel_rfl) (by kernel_rfl) (by kernel_rfl) (fun _ _ _ h => False.elim h) (Or.inl ⟨by rfl, ?_⟩) (by assumption) ?_
          rotate_left
          · intro w hSw
            (try dsimp only at hSw)
            go_simp
            all_goals with_reducible rfl
          (try simp only [Act.put, List.setIfInBounds_toArray, List.set_cons_zero, List.set_cons_succ])
          refine wpAnyH_ready (rs := [5]) (by kernel_rfl) (by simp) ?_
          refine AllReadyH.cons (o := ⟨some 33, _, _, _, _, _⟩) rfl (fun K hK => ?_) AllReadyH.nil
          go_simp
          (refine (HMC.out _).mono ?_; rintro e wm ⟨rfl, hBm⟩; obtain ⟨p1, p2, p3, p4, p5, p6, p7⟩ := HPUT.out wm (HZ0.out.trans hBm); have P1 := Lib.hid p1; have P2 := Lib.hid p2; have P3 := Lib.hid p3; have P6 := Lib.hid p6; have P7 := Lib.hid p7; clear hBm p1 p2 p3 p6 p7)
          (try go_wp2_with fail)
          refine hK.out _ _ ?_ (fun hHeld => ?_)
          · ((try dsimp only); refine ⟨?_, ?_⟩ <;> (first | assumption | (go_keep; done)))
          clear hK K
          (try simp only [Act.put, List.setIfInBounds_toArray, List.set_cons_zero, List.set_cons_succ])
          refine wpAnyH_take (i := 6) (oi := ⟨some 34, _, _, _, _, _⟩) (v := ?_) rfl (by kernel_rfl) (by kernel_rfl) (by kernel_rfl) (fun _ _ _ h => False.elim h) (Or.inl ⟨by rfl, ?_⟩) (by assumption) ?_
          rotate_left
          · intro w hSw
            (try dsimp only at hSw)
            go_simp
            all_goals with_reducible rfl
          (try simp only [Act.put, List.setIfInBounds_toArray, List.set_cons_zero, List.set_cons_succ])
          refine wpAnyH_ready (rs := [7]) (by kernel_rfl) (by simp) ?_
          refine AllReadyH.cons (o := ⟨none, _, _, _, _, _⟩) rfl (fun K hK => ?_) AllReadyH.nil
          (refine step_store_row rfl 144 _ _ rfl g (k * 2) M.toArray rfl rfl P3.out HS5.out H6.out ?_; have r0 := P6.out; have r2 := P7.out)
          refine hK.out _ _ ?_ (fun hHeld => ?_)
          · ((try dsimp only); refine ⟨?_, ?_⟩ <;> (first | assumption | (go_keep; done)))
          clear hK K
          (try simp only [Act.put, List.setIfInBounds_toArray, List.set_cons_zero, List.set_cons_succ])
          refine wpAnyH_done (by kernel_rfl) ?_ _
          refine NoPanic.normal ?_
          go_wp2_with fail
          go_roundw
          case rel => exact ⟨k + 1, by omega, by go_num, P1.out, P2.out⟩
          case measure => simp [intOf]; omega
        · obtain rfl : k = h.len := by omega
          have hrk' : RowIs kParam base wr h (marksG kParam h.n h.len) := by
            have e : xs.drop (h.len * kParam.q) = [] := List.drop_eq_nil_of_le (by rw [HXL.out]; exact Nat.le_refl _)
            rwa [e, List.append_nil] at hrk
          have hother : ∀ (i : Nat) (h2 : Hb) (ys : List Value), i ≠ j → (H 10)[i]? = some h2 → RowIs kParam base w5 h2 ys → RowIs kParam base wr h2 ys := fun i h2 ys hij hi2 hr => hr.keep hkk (fun x hx hm => HF.out.unlike j i h h2 HH.out hi2 (by omega) x hm hx)
          have hdone2 : ∀ (i : Nat) (h2 : Hb), i < j + 1 → (H 10)[i]? = some h2 → RowIs kParam base wr h2 (marksG kParam h2.n h2.len) := fun i h2 hi hi2 => by
            rcases Nat.lt_or_ge i j with hij | hij
            · exact hother i h2 _ (by omega) hi2 (HDONE.out i h2 hij hi2)
            · obtain rfl : i = j := by omega
              rw [HH.out] at hi2
              injection hi2 with hi2
              subst hi2
              exact hrk'
          have htodo2 : ∀ (i : Nat) (h2 : Hb), j + 1 ≤ i → (H 10)[i]? = some h2 → ∃ cs, RowIs kParam base wr h2 cs := fun i h2 hi hi2 => by
            obtain ⟨ys, hys⟩ := HTODO.out i h2 (by omega) hi2
            exact ⟨ys, hother i h2 _ (by omega) hi2 hys⟩
          have hkp2 : Keeps (ByTy base 144 w) w wr := HKP.out.trans (hkk.mono (fun x hx => (HTY.out j h HH.out x hx).2))
          have HD2 := Lib.hid hdone2
          have HT2 := Lib.hid htodo2
          have HKP2 := Lib.hid hkp2
          clear hrk hrk' hkk hkq hother hdone2 htodo2 hkp2
          go_wp2_with fail
          go_roundw
          case rel => exact ⟨j + 1, by omega, by go_num, HD2.out, HT2.out, HKP2.out⟩
          case measure => simp [intOf]; omega
    · obtain rfl : j = N := by omega
      obtain ⟨AS, cS, hB1, _⟩ := hbk.cell (k := 10) (by omega) (by omega)
      rw [HN.out] at hB1
      have HD := Lib.hid (fun (i : Nat) (h : Hb) (hi : (H 10)[i]? = some h) => hdone i h (by have := (List.getElem?_eq_some_iff.1 hi).1; have := HN.out; omega) hi)
      have HKP := Lib.hid hkp
      clear hbk hdone htodo hkp
      go_wp2_with fail
      go_end0
      exact ⟨rfl, HD.out, HKP.out⟩
end Go.Proofs.YtgecfcdafbedaaaGreatDoor
