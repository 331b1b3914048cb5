/- A look at a Book's lists of one kind (Param): all marks are there. Printed by mkbk.py. -/
import Derived.Test.YtgecfcdafbedaaaGreatDoorZRSpotsPlayUpto38
namespace Go.Proofs.YtgecfcdafbedaaaGreatDoor
open Go.RowKit
set_option linter.unusedSimpArgs false
set_option linter.unusedVariables false

set_option maxRecDepth 100000 in
theorem isParam_any (n : Nat) (w : World) (hn : n ≤ 30000) : Calls Tryz.prog 114 #[(.agg #[.int .u16 (n : Int), .slice none 0 0]), .int .i64 (n : Int)] w fun e w' => e = .returned (.bool true) ∧ Below w.heap.size w w' := by
  have hw : IntKind.u16.wrap (n : Int) = n := IntWalk.u16_in _ (by omega)
  go_enter Tryz.func114, Tryz.ntmps114
  go_wp2_with fail
  go_ret
  exact ⟨rfl, (Below.refl _ _).alloc (Nat.le_refl _) _⟩

set_option maxRecDepth 100000 in
set_option maxHeartbeats 8000000 in
theorem lookParam_any (base B m : Nat) (H : Nat → List Hb) (w : World) (hb : BookAt base w B m H) (hse : ∀ (i : Nat) (h' : Hb), (H 10)[i]? = some h' → ∃ h, Seen kParam base w h h') :
    Calls Tryz.prog 76 #[.pointer (some ⟨B, 0, none⟩)] w fun e w' => e = .returned (.bool true) ∧ Below w.heap.size w w' := by
  have hu : Tryz.prog.underlying 141 = some (.struct _) := Tryz.underlying141
  have heu : Tryz.prog.underlying 144 = some (.struct _) := Tryz.underlying144
  have HEU := Lib.hid heu
  have HB_ := Lib.hid hb
  have HSE := Lib.hid hse
  have HU := Lib.hid hu
  obtain ⟨N, hN⟩ : ∃ N, (H 10).length = N := ⟨_, rfl⟩
  have HN := Lib.hid hN
  have hfew : N ≤ 30000 := by rw [← hN]; exact Nat.le_trans (hb.few 10 (by omega) (by omega)) hb.most
  clear hb hse hu hN
  clear heu
  go_enter Tryz.func76, Tryz.ntmps76
  go_wp2_with fail
  go_loopw [3] (fun s wr => ∃ j : Nat, j ≤ N ∧ s = .int .i64 j ∧ Below w.heap.size w wr) (fun s _ => N - (intOf s).toNat)
  case atStart => exact ⟨0, Nat.zero_le _, rfl, Below.refl _ _⟩
  case round =>
    obtain ⟨j, hj, rfl, hBw⟩ := hrel
    have hbk := HB_.out.below hBw
    by_cases hlt : j < N
    · obtain ⟨h', hh⟩ : ∃ h', (H 10)[j]? = some h' := ⟨_, List.getElem?_eq_getElem (by rw [HN.out]; exact hlt)⟩
      obtain ⟨gS, cS, hB1, hcS, hgS, hbS, hcurS, hrowS⟩ := hbk.at_ (by omega) (by omega) hh
      obtain ⟨h, hsn⟩ := HSE.out j h' hh
      have hsn1 := hsn.below hBw
      obtain ⟨AA, cc, rfl⟩ := hsn.is
      have hn := hsn.n
      have hlen := hsn.len
      rw [HN.out] at hB1
      have hs3 : (Tryz.prog.info? 141).map (·.size) = some (hbC (h.grown AA cc)).length := size_hParam
      have hs4 : (Tryz.prog.info? 141).map (·.size) = some (hbC (h.grown AA cc)).toArray.size := size_hParam
      have h1 : (hbC (h.grown AA cc)).toArray.all (·.oneCell') = true := all_oneCell_toArray (hbC_one _)
      have HK4 : Hid (Blk (wr.alloc (.cells zHb.toArray 141)) wr.heap.size 141 zHb) := Lib.hid (Blk.new wr 141 zHb)
      have HTH : Hid ((wr.alloc (.cells zHb.toArray 141)).there wr.heap.size 0 (hbC (h.grown AA cc)).toArray.size) := Lib.hid (HK4.out.there 0 _ (by simp [zHb, hbC]))
      have hk5 : Blk ((wr.alloc (.cells zHb.toArray 141)).setCells wr.heap.size 0 (hbC (h.grown AA cc))) wr.heap.size 141 (hbC (h.grown AA cc)) := by
        have := Blk.setCells (hbC (h.grown AA cc)) 0 _ _ HK4.out (by simp [zHb, hbC])
        rwa [splice_whole _ _ (by simp [zHb, hbC])] at this
      have hB5 : Below wr.heap.size wr ((wr.alloc (.cells zHb.toArray 141)).setCells wr.heap.size 0 (hbC (h.grown AA cc))) := below_keeps (new_belowB _ _) (Keeps.setCells (g := wr.heap.size) _ 0 _) (Nat.le_refl _) (fun i hi => by have e : i = wr.heap.size := hi; omega)
      obtain ⟨w5, hw5⟩ : ∃ w5, (wr.alloc (.cells zHb.toArray 141)).setCells wr.heap.size 0 (hbC (h.grown AA cc)) = w5 := ⟨_, rfl⟩
      rw [hw5] at hk5 hB5
      have HW5 := Lib.hid hw5
      have HK5 := Lib.hid hk5
      have HSN := Lib.hid (hsn1.below hB5)
      have HB5 := Lib.hid (hBw.trans (hB5.mono hBw.size))
      have HROWS := Lib.hid (hrowS _ rfl)
      have HS3 := Lib.hid hs3
      have HS4 := Lib.hid hs4
      have H1 := Lib.hid h1
      have HGZ : Hid (wr.heap.size < w5.heap.size) := Lib.hid HK5.out.lt
      have c0 : w5.cell? ⟨wr.heap.size, 0, none⟩ = some (.slice h.A h.len h.cap) := HK5.out.cell 0
      have c1 : w5.cell? ⟨wr.heap.size, 1, none⟩ = some (.slice AA (h.len + 40) cc) := HK5.out.cell 1
      have c2 : w5.cell? ⟨wr.heap.size, 2, none⟩ = some (.int .i64 (h.n : Int)) := HK5.out.cell 2
      obtain ⟨Y, hY⟩ : ∃ Y, hbC (h.grown AA cc) = Y := ⟨_, rfl⟩
      obtain ⟨Z, hZ⟩ : ∃ Z, zHb = Z := ⟨_, rfl⟩
      have HZ := Lib.hid hZ
      rw [hY] at HROWS HS3 HS4 H1 HTH HW5
      rw [hZ] at HTH HW5
      have j0 : (0 : Int) ≤ (j : Int) := by omega
      have j1 : (j : Int) < (N : Int) := by omega
      have jadd : IntKind.i64.wrap ((j : Int) + 1) = (j : Int) + 1 := IntWalk.i64_in _ (by omega)
      have ladd : IntKind.i64.wrap ((h.len : Int) + 40) = ((h.len + 40 : Nat) : Int) := by rw [IntWalk.i64_in _ (by omega)]; omega
      clear hk5 hB5 hw5 hY hZ hbk hrowS hcurS hsn hsn1 hs3 hs4 h1 hh HK4 hBw
      go_wp2_with (first
        | (refine wpList_load_mid rfl 141 _ rfl gS (j * 3) rfl Y _ HROWS.out HU.out rfl HS3.out ?_)
        | (refine wpList_value (o := ⟨some 4, .alloc 141, _, _, _, _⟩) (v := .pointer (some ⟨wr.heap.size, 0, none⟩)) (w' := wr.alloc (.cells zHb.toArray 141)) rfl (by kernel_rfl) ?_; rw [HZ.out])
        | (refine wpList_store_mid rfl 141 _ _ rfl wr.heap.size 0 Y.toArray rfl rfl HTH.out HS4.out H1.out ?_; rw [show Y.toArray.toList = Y from rfl, HW5.out]))
      clear HW5 HTH HROWS hgS hB1
      generalize wr.heap.size = G at *
      clear wr
      obtain ⟨gV, cV, eL, _, _, hltV, _, _⟩ := HSN.out.row.at_ (by omega)
      have hrV := RowG.low okParam HSN.out.row (show (h.grown AA cc).long.ownBlock = some gV by rw [eL]; rfl)
      have eL' : Value.slice AA (h.len + 40) cc = .slice (some ⟨gV, 0, none⟩) (h.len + 40) cV := eL
      injection eL' with eA _ eC
      subst eA
      subst eC
      have C0 := Lib.hid c0
      have C1 := Lib.hid c1
      have C2 := Lib.hid c2
      have HRV := Lib.hid hrV
      have HLTV := Lib.hid hltV
      clear eL hrV hltV c0 c1 c2
      have c0 := C0.out
      have c1 := C1.out
      go_wp2_with fail
      clear c0 c1
      go_loopw [5] (fun s wr => ∃ k : Nat, k ≤ h.len + 40 ∧ s = .int .i64 k ∧ Below w5.heap.size w5 wr) (fun s _ => h.len + 40 - (intOf s).toNat)
      case atStart => exact ⟨0, Nat.zero_le _, rfl, Below.refl _ _⟩
      case round =>
        obtain ⟨k, hk, rfl, hBk⟩ := hrel
        have c0 : wr.cell? ⟨G, 0, none⟩ = some (.slice h.A h.len h.cap) := (hBk.cell (p := ⟨G, 0, none⟩) HGZ.out).trans C0.out
        have c1 : wr.cell? ⟨G, 1, none⟩ = some (.slice (some ⟨gV, 0, none⟩) (h.len + 40) cc) := (hBk.cell (p := ⟨G, 1, none⟩) HGZ.out).trans C1.out
        have c2 : wr.cell? ⟨G, 2, none⟩ = some (.int .i64 (h.n : Int)) := (hBk.cell (p := ⟨G, 2, none⟩) HGZ.out).trans C2.out
        have k0 : (0 : Int) ≤ (k : Int) := by omega
        have kadd : IntKind.i64.wrap ((k : Int) + 1) = (k : Int) + 1 := IntWalk.i64_in _ (by omega)
        by_cases hkl : k < h.len + 40
        · have k1 : (k : Int) < ((h.len + 40 : Nat) : Int) := by omega
          have hrv : ∀ W, Below w5.heap.size w5 W → W.rangeAt gV (k * 2) (kParam.mark h.n) := fun W hW => rangeAt_keep (HRV.out k hkl) (Keeps.of_below (M := fun _ => False) hW) HLTV.out (fun h => h)
          have hcs : ∀ W, Below w5.heap.size w5 W → W.cell? ⟨G, 0, none⟩ = some (.slice h.A h.len h.cap) ∧ W.cell? ⟨G, 1, none⟩ = some (.slice (some ⟨gV, 0, none⟩) (h.len + 40) cc) ∧ W.cell? ⟨G, 2, none⟩ = some (.int .i64 (h.n : Int)) := fun W hW => ⟨(hW.cell (p := ⟨G, 0, none⟩) HGZ.out).trans C0.out, (hW.cell (p := ⟨G, 1, none⟩) HGZ.out).trans C1.out, (hW.cell (p := ⟨G, 2, none⟩) HGZ.out).trans C2.out⟩
          obtain ⟨M, hM⟩ : ∃ M, kParam.mark h.n = M := ⟨_, rfl⟩
          have hs5 : (Tryz.prog.info? 144).map (·.size) = some M.length := by rw [← hM]; kernel_rfl
          have hmv : ((.agg #[.int .u16 (h.n : Int), .slice none 0 0]) : Value) = .agg M.toArray := by rw [← hM]; rfl
          have his : ∀ W, Calls Tryz.prog 114 #[.agg M.toArray, .int .i64 (h.n : Int)] W fun e w' => e = .returned (.bool true) ∧ Below W.heap.size W w' := fun W => by
            have := isParam_any h.n W hn.2
            rwa [hmv] at this
          rw [hM] at hrv
          have HBD : Hid (Below w5.heap.size w5 wr.drew) := Lib.hid (hBk.trans ((drew_belowB wr).mono hBk.size))
          by_cases hk2 : k < h.len
          · have k2 : (k : Int) < (h.len : Int) := by omega
            obtain ⟨g, hA⟩ := HSN.out.at0 (by omega)
            obtain ⟨hg, _, hlowg⟩ := HSN.out.low g (own_of_A hA)
            have hrl : ∀ W, Below w5.heap.size w5 W → W.rangeAt g (k * 2) (kParam.mark h.n) := fun W hW => rangeAt_keep (hlowg k hk2) (Keeps.of_below (M := fun _ => False) hW) hg (fun h => h)
            rw [hM] at hrl
            rw [hA] at hcs
            have HALL : Hid (∀ W, Below w5.heap.size w5 W → W.cell? ⟨G, 0, none⟩ = some (.slice (some ⟨g, 0, none⟩) h.len h.cap) ∧ W.cell? ⟨G, 1, none⟩ = some (.slice (some ⟨gV, 0, none⟩) (h.len + 40) cc) ∧ W.cell? ⟨G, 2, none⟩ = some (.int .i64 (h.n : Int)) ∧ W.rangeAt gV (k * 2) M ∧ W.rangeAt g (k * 2) M) := Lib.hid (fun W hW => ⟨(hcs W hW).1, (hcs W hW).2.1, (hcs W hW).2.2, hrv W hW, hrl W hW⟩)
            have HIS := Lib.hid his
            have HS5 := Lib.hid hs5
            obtain ⟨a0, a1, a2, a3, a4⟩ := HALL.out wr hBk
            clear hrv hcs hM hs5 hmv his hrl c0 c1 c2
            clear hBk hlowg
            go_wp2_with fail
            refine wp_region_noPanic ?_
            refine wp_region_held_drew (S := (fun w' => w'.cell? ⟨G, 0, none⟩ = some (.slice (some ⟨g, 0, none⟩) h.len h.cap) ∧ w'.cell? ⟨G, 1, none⟩ = some (.slice (some ⟨gV, 0, none⟩) (h.len + 40) cc) ∧ w'.cell? ⟨G, 2, none⟩ = some (.int .i64 (h.n : Int)) ∧ w'.rangeAt gV (k * 2) M ∧ w'.rangeAt g (k * 2) M)) (by kernel_rfl) ?_ (fun hHeld => ?_)
            · ((try dsimp only); refine ⟨?_, ?_, ?_, ?_, ?_⟩ <;> (first | assumption | (go_keep; done)))
            refine wpAnyH_take (i := 0) (oi := ⟨some 37, _, _, _, _, _⟩) (v := ?_) rfl (by kernel_rfl) (by kernel_rfl) (by kernel_rfl) (fun _ _ _ h => False.elim h) (Or.inl ⟨by rfl, ?_⟩) (by assumption) ?_
            rotate_left
            · intro w hSw
              (try dsimp only at hSw)
              go_simp
              all_goals with_reducible rfl
            (try simp only [Act.put, List.setIfInBounds_toArray, List.set_cons_zero, List.set_cons_succ])
            refine wpAnyH_take (i := 1) (oi := ⟨some 38, _, _, _, _, _⟩) (v := ?_) rfl (by kernel_rfl) (by kernel_rfl) (by kernel_rfl) (fun _ _ _ h => False.elim h) (Or.inl ⟨by rfl, ?_⟩) (by assumption) ?_
            rotate_left
            · intro w hSw
              (try dsimp only at hSw)
              go_simp
              all_goals with_reducible rfl
            (try simp only [Act.put, List.setIfInBounds_toArray, List.set_cons_zero, List.set_cons_succ])
            refine wpAnyH_take (i := 2) (oi := ⟨some 39, _, _, _, _, _⟩) (v := ?_) rfl (by kernel_rfl) (by kernel_rfl) (by kernel_rfl) (fun _ _ _ h => False.elim h) (Or.inl ⟨by rfl, ?_⟩) (by assumption) ?_
            rotate_left
            · intro w hSw
              (try dsimp only at hSw)
              go_simp
              all_goals with_reducible rfl
            (try simp only [Act.put, List.setIfInBounds_toArray, List.set_cons_zero, List.set_cons_succ])
            refine wpAnyH_take (i := 3) (oi := ⟨some 40, _, _, _, _, _⟩) (v := ?_) rfl (by kernel_rfl) (by kernel_rfl) (by kernel_rfl) (fun _ _ _ h => False.elim h) (Or.inl ⟨by rfl, ?_⟩) (by assumption) ?_
            rotate_left
            · intro w hSw
              (try dsimp only at hSw)
              go_simp
              all_goals with_reducible rfl
            (try simp only [Act.put, List.setIfInBounds_toArray, List.set_cons_zero, List.set_cons_succ])
            refine wpAnyH_take (i := 4) (oi := ⟨some 41, _, _, _, _, _⟩) (v := .agg M.toArray) rfl (by kernel_rfl) (by kernel_rfl) (by kernel_rfl) (fun _ _ _ h => False.elim h) ?_ (by assumption) ?_
            · refine yieldsIf_load_mid ?_ 144 _ rfl gV (k * 2) rfl M _ ?_ HEU.out rfl HS5.out
              · rfl
              · (intro w hSw; (try dsimp only at hSw); go_split_ands; assumption)
            (try simp only [Act.put, List.setIfInBounds_toArray, List.set_cons_zero, List.set_cons_succ])
            refine wpAnyH_take (i := 5) (oi := ⟨some 42, _, _, _, _, _⟩) (v := ?_) rfl (by kernel_rfl) (by kernel_rfl) (by kernel_rfl) (fun _ _ _ h => False.elim h) (Or.inl ⟨by rfl, ?_⟩) (by assumption) ?_
            rotate_left
            · intro w hSw
              (try dsimp only at hSw)
              go_simp
              all_goals with_reducible rfl
            (try simp only [Act.put, List.setIfInBounds_toArray, List.set_cons_zero, List.set_cons_succ])
            refine wpAnyH_take (i := 6) (oi := ⟨some 43, _, _, _, _, _⟩) (v := ?_) rfl (by kernel_rfl) (by kernel_rfl) (by kernel_rfl) (fun _ _ _ h => False.elim h) (Or.inl ⟨by rfl, ?_⟩) (by assumption) ?_
            rotate_left
            · intro w hSw
              (try dsimp only at hSw)
              go_simp
              all_goals with_reducible rfl
            (try simp only [Act.put, List.setIfInBounds_toArray, List.set_cons_zero, List.set_cons_succ])
            refine wpAnyH_ready (rs := [7]) (by kernel_rfl) (by simp) ?_
            refine AllReadyH.cons (o := ⟨some 44, _, _, _, _, _⟩) rfl (fun K hK => ?_) AllReadyH.nil
            go_simp
            (refine (HIS.out _).mono ?_; rintro e wm ⟨rfl, hBm⟩; have HBm := Lib.hid (HBD.out.trans (hBm.mono HBD.out.size)); clear hBm; obtain ⟨b0, b1, b2, b3, b4⟩ := HALL.out wm HBm.out)
            (try go_wp2_with fail)
            refine hK.out _ _ ?_ (fun hHeld => ?_)
            · ((try dsimp only); refine ⟨?_, ?_, ?_, ?_, ?_⟩ <;> (first | assumption | (go_keep; done)))
            clear hK K
            (try simp only [Act.put, List.setIfInBounds_toArray, List.set_cons_zero, List.set_cons_succ])
            refine wpAnyH_take (i := 8) (oi := ⟨some 45, _, _, _, _, _⟩) (v := ?_) rfl (by kernel_rfl) (by kernel_rfl) (by kernel_rfl) (fun _ _ _ h => False.elim h) (Or.inl ⟨by rfl, ?_⟩) (by assumption) ?_
            rotate_left
            · intro w hSw
              (try dsimp only at hSw)
              go_simp
              all_goals with_reducible rfl
            (try simp only [Act.put, List.setIfInBounds_toArray, List.set_cons_zero, List.set_cons_succ])
            refine wpAnyH_take (i := 9) (oi := ⟨some 46, _, _, _, _, _⟩) (v := ?_) rfl (by kernel_rfl) (by kernel_rfl) (by kernel_rfl) (fun _ _ _ h => False.elim h) (Or.inl ⟨by rfl, ?_⟩) (by assumption) ?_
            rotate_left
            · intro w hSw
              (try dsimp only at hSw)
              go_simp
              all_goals with_reducible rfl
            (try simp only [Act.put, List.setIfInBounds_toArray, List.set_cons_zero, List.set_cons_succ])
            refine wpAnyH_take (i := 10) (oi := ⟨some 47, _, _, _, _, _⟩) (v := ?_) rfl (by kernel_rfl) (by kernel_rfl) (by kernel_rfl) (fun _ _ _ h => False.elim h) (Or.inl ⟨by rfl, ?_⟩) (by assumption) ?_
            rotate_left
            · intro w hSw
              (try dsimp only at hSw)
              go_simp
              all_goals with_reducible rfl
            (try simp only [Act.put, List.setIfInBounds_toArray, List.set_cons_zero, List.set_cons_succ])
            refine wpAnyH_take (i := 11) (oi := ⟨some 48, _, _, _, _, _⟩) (v := ?_) rfl (by kernel_rfl) (by kernel_rfl) (by kernel_rfl) (fun _ _ _ h => False.elim h) (Or.inl ⟨by rfl, ?_⟩) (by assumption) ?_
            rotate_left
            · intro w hSw
              (try dsimp only at hSw)
              go_simp
              all_goals with_reducible rfl
            (try simp only [Act.put, List.setIfInBounds_toArray, List.set_cons_zero, List.set_cons_succ])
            refine wpAnyH_take (i := 12) (oi := ⟨some 49, _, _, _, _, _⟩) (v := ?_) rfl (by kernel_rfl) (by kernel_rfl) (by kernel_rfl) (fun _ _ _ h => False.elim h) (Or.inl ⟨by rfl, ?_⟩) (by assumption) ?_
            rotate_left
            · intro w hSw
              (try dsimp only at hSw)
              go_simp
              all_goals with_reducible rfl
            (try simp only [Act.put, List.setIfInBounds_toArray, List.set_cons_zero, List.set_cons_succ])
            refine wpAnyH_take (i := 13) (oi := ⟨some 50, _, _, _, _, _⟩) (v := ?_) rfl (by kernel_rfl) (by kernel_rfl) (by kernel_rfl) (fun _ _ _ h => False.elim h) (Or.inl ⟨by rfl, ?_⟩) (by assumption) ?_
            rotate_left
            · intro w hSw
              (try dsimp only at hSw)
              go_simp
              all_goals with_reducible rfl
            (try simp only [Act.put, List.setIfInBounds_toArray, List.set_cons_zero, List.set_cons_succ])
            refine wpAnyH_take (i := 14) (oi := ⟨some 51, _, _, _, _, _⟩) (v := ?_) rfl (by kernel_rfl) (by kernel_rfl) (by kernel_rfl) (fun _ _ _ h => False.elim h) (Or.inl ⟨by rfl, ?_⟩) (by assumption) ?_
            rotate_left
            · intro w hSw
              (try dsimp only at hSw)
              go_simp
              all_goals with_reducible rfl
            (try simp only [Act.put, List.setIfInBounds_toArray, List.set_cons_zero, List.set_cons_succ])
            refine wpAnyH_take (i := 15) (oi := ⟨some 52, _, _, _, _, _⟩) (v := ?_) rfl (by kernel_rfl) (by kernel_rfl) (by kernel_rfl) (fun _ _ _ h => False.elim h) (Or.inl ⟨by rfl, ?_⟩) (by assumption) ?_
            rotate_left
            · intro w hSw
              (try dsimp only at hSw)
              go_simp
              all_goals with_reducible rfl
            (try simp only [Act.put, List.setIfInBounds_toArray, List.set_cons_zero, List.set_cons_succ])
            refine wpAnyH_take (i := 16) (oi := ⟨some 53, _, _, _, _, _⟩) (v := ?_) rfl (by kernel_rfl) (by kernel_rfl) (by kernel_rfl) (fun _ _ _ h => False.elim h) (Or.inl ⟨by rfl, ?_⟩) (by assumption) ?_
            rotate_left
            · intro w hSw
              (try dsimp only at hSw)
              go_simp
              all_goals with_reducible rfl
            (try simp only [Act.put, List.setIfInBounds_toArray, List.set_cons_zero, List.set_cons_succ])
            refine wpAnyH_take (i := 17) (oi := ⟨some 54, _, _, _, _, _⟩) (v := ?_) rfl (by kernel_rfl) (by kernel_rfl) (by kernel_rfl) (fun _ _ _ h => False.elim h) (Or.inl ⟨by rfl, ?_⟩) (by assumption) ?_
            rotate_left
            · intro w hSw
              (try dsimp only at hSw)
              go_simp
              all_goals with_reducible rfl
            (try simp only [Act.put, List.setIfInBounds_toArray, List.set_cons_zero, List.set_cons_succ])
            refine wpAnyH_take (i := 18) (oi := ⟨some 55, _, _, _, _, _⟩) (v := ?_) rfl (by kernel_rfl) (by kernel_rfl) (by kernel_rfl) (fun _ _ _ h => False.elim h) (Or.inl ⟨by rfl, ?_⟩) (by assumption) ?_
            rotate_left
            · intro w hSw
              (try dsimp only at hSw)
              go_simp
              all_goals with_reducible rfl
            (try simp only [Act.put, List.setIfInBounds_toArray, List.set_cons_zero, List.set_cons_succ])
            refine wpAnyH_take (i := 19) (oi := ⟨some 56, _, _, _, _, _⟩) (v := ?_) rfl (by kernel_rfl) (by kernel_rfl) (by kernel_rfl) (fun _ _ _ h => False.elim h) (Or.inl ⟨by rfl, ?_⟩) (by assumption) ?_
            rotate_left
            · intro w hSw
              (try dsimp only at hSw)
              go_simp
              all_goals with_reducible rfl
            (try simp only [Act.put, List.setIfInBounds_toArray, List.set_cons_zero, List.set_cons_succ])
            refine wpAnyH_take (i := 20) (oi := ⟨some 57, _, _, _, _, _⟩) (v := .agg M.toArray) rfl (by kernel_rfl) (by kernel_rfl) (by kernel_rfl) (fun _ _ _ h => False.elim h) ?_ (by assumption) ?_
            · refine yieldsIf_load_mid ?_ 144 _ rfl g (k * 2) rfl M _ ?_ HEU.out rfl HS5.out
              · rfl
              · (intro w hSw; (try dsimp only at hSw); go_split_ands; assumption)
            (try simp only [Act.put, List.setIfInBounds_toArray, List.set_cons_zero, List.set_cons_succ])
            refine wpAnyH_take (i := 21) (oi := ⟨some 58, _, _, _, _, _⟩) (v := ?_) rfl (by kernel_rfl) (by kernel_rfl) (by kernel_rfl) (fun _ _ _ h => False.elim h) (Or.inl ⟨by rfl, ?_⟩) (by assumption) ?_
            rotate_left
            · intro w hSw
              (try dsimp only at hSw)
              go_simp
              all_goals with_reducible rfl
            (try simp only [Act.put, List.setIfInBounds_toArray, List.set_cons_zero, List.set_cons_succ])
            refine wpAnyH_take (i := 22) (oi := ⟨some 59, _, _, _, _, _⟩) (v := ?_) rfl (by kernel_rfl) (by kernel_rfl) (by kernel_rfl) (fun _ _ _ h => False.elim h) (Or.inl ⟨by rfl, ?_⟩) (by assumption) ?_
            rotate_left
            · intro w hSw
              (try dsimp only at hSw)
              go_simp
              all_goals with_reducible rfl
            (try simp only [Act.put, List.setIfInBounds_toArray, List.set_cons_zero, List.set_cons_succ])
            refine wpAnyH_ready (rs := [23]) (by kernel_rfl) (by simp) ?_
            refine AllReadyH.cons (o := ⟨some 60, _, _, _, _, _⟩) rfl (fun K hK => ?_) AllReadyH.nil
            go_simp
            (refine (HIS.out _).mono ?_; rintro e wn ⟨rfl, hBn⟩; have HBn := Lib.hid (HBm.out.trans (hBn.mono HBm.out.size)); clear hBn; obtain ⟨d0, d1, d2, d3, d4⟩ := HALL.out wn HBn.out)
            (try go_wp2_with fail)
            refine hK.out _ _ ?_ (fun hHeld => ?_)
            · ((try dsimp only); refine ⟨?_, ?_, ?_, ?_, ?_⟩ <;> (first | assumption | (go_keep; done)))
            clear hK K
            (try simp only [Act.put, List.setIfInBounds_toArray, List.set_cons_zero, List.set_cons_succ])
            refine wpAnyH_take (i := 24) (oi := ⟨some 61, _, _, _, _, _⟩) (v := ?_) rfl (by kernel_rfl) (by kernel_rfl) (by kernel_rfl) (fun _ _ _ h => False.elim h) (Or.inl ⟨by rfl, ?_⟩) (by assumption) ?_
            rotate_left
            · intro w hSw
              (try dsimp only at hSw)
              go_simp
              all_goals with_reducible rfl
            (try simp only [Act.put, List.setIfInBounds_toArray, List.set_cons_zero, List.set_cons_succ])
            refine wpAnyH_take (i := 25) (oi := ⟨some 62, _, _, _, _, _⟩) (v := ?_) rfl (by kernel_rfl) (by kernel_rfl) (by kernel_rfl) (fun _ _ _ h => False.elim h) (Or.inl ⟨by rfl, ?_⟩) (by assumption) ?_
            rotate_left
            · intro w hSw
              (try dsimp only at hSw)
              go_simp
              all_goals with_reducible rfl
            (try simp only [Act.put, List.setIfInBounds_toArray, List.set_cons_zero, List.set_cons_succ])
            refine wpAnyH_take (i := 26) (oi := ⟨some 63, _, _, _, _, _⟩) (v := ?_) rfl (by kernel_rfl) (by kernel_rfl) (by kernel_rfl) (fun _ _ _ h => False.elim h) (Or.inl ⟨by rfl, ?_⟩) (by assumption) ?_
            rotate_left
            · intro w hSw
              (try dsimp only at hSw)
              go_simp
              all_goals with_reducible rfl
            (try simp only [Act.put, List.setIfInBounds_toArray, List.set_cons_zero, List.set_cons_succ])
            refine wpAnyH_done (by kernel_rfl) ?_ _
            refine NoPanic.normal ?_
            go_wp2_with fail
            go_roundw
            case rel =>
              first
                | exact ⟨k + 1, by omega, by go_num, HBn.out⟩
                | ((repeat apply Exists.intro); refine And.symm ⟨?_, ?_⟩; (rw [hA]); exact ⟨k + 1, by omega, by go_num, HBn.out⟩)
            case measure => simp [intOf]; omega
          · have k2 : ¬ (k : Int) < (h.len : Int) := by omega
            have HALL : Hid (∀ W, Below w5.heap.size w5 W → W.cell? ⟨G, 0, none⟩ = some (.slice h.A h.len h.cap) ∧ W.cell? ⟨G, 1, none⟩ = some (.slice (some ⟨gV, 0, none⟩) (h.len + 40) cc) ∧ W.cell? ⟨G, 2, none⟩ = some (.int .i64 (h.n : Int)) ∧ W.rangeAt gV (k * 2) M) := Lib.hid (fun W hW => ⟨(hcs W hW).1, (hcs W hW).2.1, (hcs W hW).2.2, hrv W hW⟩)
            have HIS := Lib.hid his
            have HS5 := Lib.hid hs5
            obtain ⟨a0, a1, a2, a3⟩ := HALL.out wr hBk
            clear hrv hcs hM hs5 hmv his c0 c1 c2
            clear hBk
            go_wp2_with fail
            refine wp_region_noPanic ?_
            refine wp_region_held_drew (S := (fun w' => w'.cell? ⟨G, 0, none⟩ = some (.slice h.A h.len h.cap) ∧ w'.cell? ⟨G, 1, none⟩ = some (.slice (some ⟨gV, 0, none⟩) (h.len + 40) cc) ∧ w'.cell? ⟨G, 2, none⟩ = some (.int .i64 (h.n : Int)) ∧ w'.rangeAt gV (k * 2) M)) (by kernel_rfl) ?_ (fun hHeld => ?_)
            · ((try dsimp only); refine ⟨?_, ?_, ?_, ?_⟩ <;> (first | assumption | (go_keep; done)))
            refine wpAnyH_take (i := 0) (oi := ⟨some 37, _, _, _, _, _⟩) (v := ?_) rfl (by kernel_rfl) (by kernel_rfl) (by kernel_rfl) (fun _ _ _ h => False.elim h) (Or.inl ⟨by rfl, ?_⟩) (by assumption) ?_
            rotate_left
            · intro w hSw
              (try dsimp only at hSw)
              go_simp
              all_goals with_reducible rfl
            (try simp only [Act.put, List.setIfInBounds_toArray, List.set_cons_zero, List.set_cons_succ])
            refine wpAnyH_take (i := 1) (oi := ⟨some 38, _, _, _, _, _⟩) (v := ?_) rfl (by kernel_rfl) (by kernel_rfl) (by kernel_rfl) (fun _ _ _ h => False.elim h) (Or.inl ⟨by rfl, ?_⟩) (by assumption) ?_
            rotate_left
            · intro w hSw
              (try dsimp only at hSw)
              go_simp
              all_goals with_reducible rfl
            (try simp only [Act.put, List.setIfInBounds_toArray, List.set_cons_zero, List.set_cons_succ])
            refine wpAnyH_take (i := 2) (oi := ⟨some 39, _, _, _, _, _⟩) (v := ?_) rfl (by kernel_rfl) (by kernel_rfl) (by kernel_rfl) (fun _ _ _ h => False.elim h) (Or.inl ⟨by rfl, ?_⟩) (by assumption) ?_
            rotate_left
            · intro w hSw
              (try dsimp only at hSw)
              go_simp
              all_goals with_reducible rfl
            (try simp only [Act.put, List.setIfInBounds_toArray, List.set_cons_zero, List.set_cons_succ])
            refine wpAnyH_take (i := 3) (oi := ⟨some 40, _, _, _, _, _⟩) (v := ?_) rfl (by kernel_rfl) (by kernel_rfl) (by kernel_rfl) (fun _ _ _ h => False.elim h) (Or.inl ⟨by rfl, ?_⟩) (by assumption) ?_
            rotate_left
            · intro w hSw
              (try dsimp only at hSw)
              go_simp
              all_goals with_reducible rfl
            (try simp only [Act.put, List.setIfInBounds_toArray, List.set_cons_zero, List.set_cons_succ])
            refine wpAnyH_take (i := 4) (oi := ⟨some 41, _, _, _, _, _⟩) (v := .agg M.toArray) rfl (by kernel_rfl) (by kernel_rfl) (by kernel_rfl) (fun _ _ _ h => False.elim h) ?_ (by assumption) ?_
            · refine yieldsIf_load_mid ?_ 144 _ rfl gV (k * 2) rfl M _ ?_ HEU.out rfl HS5.out
              · rfl
              · (intro w hSw; (try dsimp only at hSw); go_split_ands; assumption)
            (try simp only [Act.put, List.setIfInBounds_toArray, List.set_cons_zero, List.set_cons_succ])
            refine wpAnyH_take (i := 5) (oi := ⟨some 42, _, _, _, _, _⟩) (v := ?_) rfl (by kernel_rfl) (by kernel_rfl) (by kernel_rfl) (fun _ _ _ h => False.elim h) (Or.inl ⟨by rfl, ?_⟩) (by assumption) ?_
            rotate_left
            · intro w hSw
              (try dsimp only at hSw)
              go_simp
              all_goals with_reducible rfl
            (try simp only [Act.put, List.setIfInBounds_toArray, List.set_cons_zero, List.set_cons_succ])
            refine wpAnyH_take (i := 6) (oi := ⟨some 43, _, _, _, _, _⟩) (v := ?_) rfl (by kernel_rfl) (by kernel_rfl) (by kernel_rfl) (fun _ _ _ h => False.elim h) (Or.inl ⟨by rfl, ?_⟩) (by assumption) ?_
            rotate_left
            · intro w hSw
              (try dsimp only at hSw)
              go_simp
              all_goals with_reducible rfl
            (try simp only [Act.put, List.setIfInBounds_toArray, List.set_cons_zero, List.set_cons_succ])
            refine wpAnyH_ready (rs := [7]) (by kernel_rfl) (by simp) ?_
            refine AllReadyH.cons (o := ⟨some 44, _, _, _, _, _⟩) rfl (fun K hK => ?_) AllReadyH.nil
            go_simp
            (refine (HIS.out _).mono ?_; rintro e wm ⟨rfl, hBm⟩; have HBm := Lib.hid (HBD.out.trans (hBm.mono HBD.out.size)); clear hBm; obtain ⟨b0, b1, b2, b3⟩ := HALL.out wm HBm.out)
            (try go_wp2_with fail)
            refine hK.out _ _ ?_ (fun hHeld => ?_)
            · ((try dsimp only); refine ⟨?_, ?_, ?_, ?_⟩ <;> (first | assumption | (go_keep; done)))
            clear hK K
            (try simp only [Act.put, List.setIfInBounds_toArray, List.set_cons_zero, List.set_cons_succ])
            refine wpAnyH_take (i := 8) (oi := ⟨some 45, _, _, _, _, _⟩) (v := ?_) rfl (by kernel_rfl) (by kernel_rfl) (by kernel_rfl) (fun _ _ _ h => False.elim h) (Or.inl ⟨by rfl, ?_⟩) (by assumption) ?_
            rotate_left
            · intro w hSw
              (try dsimp only at hSw)
              go_simp
              all_goals with_reducible rfl
            (try simp only [Act.put, List.setIfInBounds_toArray, List.set_cons_zero, List.set_cons_succ])
            refine wpAnyH_take (i := 9) (oi := ⟨some 46, _, _, _, _, _⟩) (v := ?_) rfl (by kernel_rfl) (by kernel_rfl) (by kernel_rfl) (fun _ _ _ h => False.elim h) (Or.inl ⟨by rfl, ?_⟩) (by assumption) ?_
            rotate_left
            · intro w hSw
              (try dsimp only at hSw)
              go_simp
              all_goals with_reducible rfl
            (try simp only [Act.put, List.setIfInBounds_toArray, List.set_cons_zero, List.set_cons_succ])
            refine wpAnyH_take (i := 10) (oi := ⟨some 47, _, _, _, _, _⟩) (v := ?_) rfl (by kernel_rfl) (by kernel_rfl) (by kernel_rfl) (fun _ _ _ h => False.elim h) (Or.inl ⟨by rfl, ?_⟩) (by assumption) ?_
            rotate_left
            · intro w hSw
              (try dsimp only at hSw)
              go_simp
              all_goals with_reducible rfl
            (try simp only [Act.put, List.setIfInBounds_toArray, List.set_cons_zero, List.set_cons_succ])
            refine wpAnyH_take (i := 11) (oi := ⟨some 48, _, _, _, _, _⟩) (v := ?_) rfl (by kernel_rfl) (by kernel_rfl) (by kernel_rfl) (fun _ _ _ h => False.elim h) (Or.inl ⟨by rfl, ?_⟩) (by assumption) ?_
            rotate_left
            · intro w hSw
              (try dsimp only at hSw)
              go_simp
              all_goals with_reducible rfl
            (try simp only [Act.put, List.setIfInBounds_toArray, List.set_cons_zero, List.set_cons_succ])
            refine wpAnyH_take (i := 12) (oi := ⟨some 49, _, _, _, _, _⟩) (v := ?_) rfl (by kernel_rfl) (by kernel_rfl) (by kernel_rfl) (fun _ _ _ h => False.elim h) (Or.inl ⟨by rfl, ?_⟩) (by assumption) ?_
            rotate_left
            · intro w hSw
              (try dsimp only at hSw)
              go_simp
              all_goals with_reducible rfl
            (try simp only [Act.put, List.setIfInBounds_toArray, List.set_cons_zero, List.set_cons_succ])
            refine wpAnyH_take (i := 13) (oi := ⟨some 50, _, _, _, _, _⟩) (v := ?_) rfl (by kernel_rfl) (by kernel_rfl) (by kernel_rfl) (fun _ _ _ h => False.elim h) (Or.inl ⟨by rfl, ?_⟩) (by assumption) ?_
            rotate_left
            · intro w hSw
              (try dsimp only at hSw)
              go_simp
              all_goals with_reducible rfl
            (try simp only [Act.put, List.setIfInBounds_toArray, List.set_cons_zero, List.set_cons_succ])
            refine wpAnyH_take (i := 14) (oi := ⟨some 51, _, _, _, _, _⟩) (v := ?_) rfl (by kernel_rfl) (by kernel_rfl) (by kernel_rfl) (fun _ _ _ h => False.elim h) (Or.inl ⟨by rfl, ?_⟩) (by assumption) ?_
            rotate_left
            · intro w hSw
              (try dsimp only at hSw)
              go_simp
              all_goals with_reducible rfl
            (try simp only [Act.put, List.setIfInBounds_toArray, List.set_cons_zero, List.set_cons_succ])
            refine wpAnyH_take (i := 15) (oi := ⟨some 52, _, _, _, _, _⟩) (v := ?_) rfl (by kernel_rfl) (by kernel_rfl) (by kernel_rfl) (fun _ _ _ h => False.elim h) (Or.inl ⟨by rfl, ?_⟩) (by assumption) ?_
            rotate_left
            · intro w hSw
              (try dsimp only at hSw)
              go_simp
              all_goals with_reducible rfl
            (try simp only [Act.put, List.setIfInBounds_toArray, List.set_cons_zero, List.set_cons_succ])
            refine wpAnyH_take (i := 16) (oi := ⟨some 53, _, _, _, _, _⟩) (v := undef) rfl (by kernel_rfl) (by kernel_rfl) (by kernel_rfl) (fun _ _ _ h => False.elim h) (Or.inr ⟨by rfl, rfl⟩) (by assumption) ?_
            (try simp only [Act.put, List.setIfInBounds_toArray, List.set_cons_zero, List.set_cons_succ])
            refine wpAnyH_take (i := 17) (oi := ⟨some 54, _, _, _, _, _⟩) (v := undef) rfl (by kernel_rfl) (by kernel_rfl) (by kernel_rfl) (fun _ _ _ h => False.elim h) (Or.inr ⟨by rfl, rfl⟩) (by assumption) ?_
            (try simp only [Act.put, List.setIfInBounds_toArray, List.set_cons_zero, List.set_cons_succ])
            refine wpAnyH_take (i := 18) (oi := ⟨some 55, _, _, _, _, _⟩) (v := undef) rfl (by kernel_rfl) (by kernel_rfl) (by kernel_rfl) (fun _ _ _ h => False.elim h) (Or.inr ⟨by rfl, rfl⟩) (by assumption) ?_
            (try simp only [Act.put, List.setIfInBounds_toArray, List.set_cons_zero, List.set_cons_succ])
            refine wpAnyH_take (i := 19) (oi := ⟨some 56, _, _, _, _, _⟩) (v := undef) rfl (by kernel_rfl) (by kernel_rfl) (by kernel_rfl) (fun _ _ _ h => False.elim h) (Or.inr ⟨by rfl, rfl⟩) (by assumption) ?_
            (try simp only [Act.put, List.setIfInBounds_toArray, List.set_cons_zero, List.set_cons_succ])
            refine wpAnyH_take (i := 20) (oi := ⟨some 57, _, _, _, _, _⟩) (v := undef) rfl (by kernel_rfl) (by kernel_rfl) (by kernel_rfl) (fun _ _ _ h => False.elim h) (Or.inr ⟨by rfl, rfl⟩) (by assumption) ?_
            (try simp only [Act.put, List.setIfInBounds_toArray, List.set_cons_zero, List.set_cons_succ])
            refine wpAnyH_take (i := 21) (oi := ⟨some 58, _, _, _, _, _⟩) (v := undef) rfl (by kernel_rfl) (by kernel_rfl) (by kernel_rfl) (fun _ _ _ h => False.elim h) (Or.inr ⟨by rfl, rfl⟩) (by assumption) ?_
            (try simp only [Act.put, List.setIfInBounds_toArray, List.set_cons_zero, List.set_cons_succ])
            refine wpAnyH_take (i := 22) (oi := ⟨some 59, _, _, _, _, _⟩) (v := undef) rfl (by kernel_rfl) (by kernel_rfl) (by kernel_rfl) (fun _ _ _ h => False.elim h) (Or.inr ⟨by rfl, rfl⟩) (by assumption) ?_
            (try simp only [Act.put, List.setIfInBounds_toArray, List.set_cons_zero, List.set_cons_succ])
            refine wpAnyH_take (i := 23) (oi := ⟨some 60, _, _, _, _, _⟩) (v := undef) rfl (by kernel_rfl) (by kernel_rfl) (by kernel_rfl) (fun _ _ _ h => False.elim h) (Or.inr ⟨by rfl, rfl⟩) (by assumption) ?_
            (try simp only [Act.put, List.setIfInBounds_toArray, List.set_cons_zero, List.set_cons_succ])
            refine wpAnyH_take (i := 24) (oi := ⟨some 61, _, _, _, _, _⟩) (v := undef) rfl (by kernel_rfl) (by kernel_rfl) (by kernel_rfl) (fun _ _ _ h => False.elim h) (Or.inr ⟨by rfl, rfl⟩) (by assumption) ?_
            (try simp only [Act.put, List.setIfInBounds_toArray, List.set_cons_zero, List.set_cons_succ])
            refine wpAnyH_take (i := 25) (oi := ⟨some 62, _, _, _, _, _⟩) (v := ?_) rfl (by kernel_rfl) (by kernel_rfl) (by kernel_rfl) (fun _ _ _ h => False.elim h) (Or.inl ⟨by rfl, ?_⟩) (by assumption) ?_
            rotate_left
            · intro w hSw
              (try dsimp only at hSw)
              go_simp
              all_goals with_reducible rfl
            (try simp only [Act.put, List.setIfInBounds_toArray, List.set_cons_zero, List.set_cons_succ])
            refine wpAnyH_take (i := 26) (oi := ⟨some 63, _, _, _, _, _⟩) (v := ?_) rfl (by kernel_rfl) (by kernel_rfl) (by kernel_rfl) (fun _ _ _ h => False.elim h) (Or.inl ⟨by rfl, ?_⟩) (by assumption) ?_
            rotate_left
            · intro w hSw
              (try dsimp only at hSw)
              go_simp
              all_goals with_reducible rfl
            (try simp only [Act.put, List.setIfInBounds_toArray, List.set_cons_zero, List.set_cons_succ])
            refine wpAnyH_done (by kernel_rfl) ?_ _
            refine NoPanic.normal ?_
            go_wp2_with fail
            go_roundw
            case rel =>
              exact ⟨k + 1, by omega, by go_num, HBm.out⟩
            case measure => simp [intOf]; omega
        · obtain rfl : k = h.len + 40 := by omega
          have HBD := Lib.hid (HB5.out.trans (hBk.mono HB5.out.size))
          clear hBk
          go_wp2_with fail
          go_roundw
          case rel => exact ⟨j + 1, by omega, by go_num, HBD.out⟩
          case measure => simp [intOf]; omega
    · obtain rfl : j = N := by omega
      obtain ⟨AS, cS, hB1, _⟩ := hbk.cell (k := 10) (by omega) (by omega)
      rw [HN.out] at hB1
      have HBW := Lib.hid hBw
      clear hbk hBw
      go_wp2_with fail
      go_ret
      exact ⟨rfl, HBW.out⟩
end Go.Proofs.YtgecfcdafbedaaaGreatDoor
