/- More is put behind all of a Book's lists of one kind (Param), one by one. Printed by mkbk.py. -/
import Derived.Test.YtgecfcdafbedaaaGreatDoorZRSpotsPlayUpto38
namespace Go.Proofs.YtgecfcdafbedaaaGreatDoor
open Go.RowKit
set_option linter.unusedSimpArgs false
set_option linter.unusedVariables false

set_option maxRecDepth 100000 in
set_option maxHeartbeats 8000000 in
theorem growParam_any (base B m : Nat) (H : Nat → List Hb) (w : World) (hb : BookAt base w B m H) (hrow : ∀ (i : Nat) (h : Hb), (H 10)[i]? = some h → RowIs kParam base w h (marksG kParam h.n h.len)) (hf : Fine (H 10)) (hbase : base ≤ w.heap.size) :
    Calls Tryz.prog 61 #[.pointer (some ⟨B, 0, none⟩)] w fun e w' => e = .returned (.tuple #[]) ∧ (∃ H', BookAt base w' B m H' ∧ (H' 10).length = (H 10).length ∧ (∀ k, k ≠ 10 → H' k = H k) ∧ ∀ (i : Nat) (h : Hb), (H 10)[i]? = some h → ∃ h', (H' 10)[i]? = some h' ∧ Grown kParam base w w' h h') ∧ Keeps (fun i => ByTy base 144 w i ∨ ByTy base 141 w i) w w' := by
  have hu : Tryz.prog.underlying 141 = some (.struct _) := Tryz.underlying141
  have hty : ∀ (i : Nat) (h : Hb), (H 10)[i]? = some h → ∀ k, h.l.ownBlock = some k → k < w.heap.size ∧ (base ≤ k ∧ ∃ cur, w.heap[k]? = some (.cells cur 144 (0, 0))) := fun i h hi k hk => by
    obtain ⟨h1, h2, h3⟩ := (hrow i h hi).ty hk
    exact ⟨h2, h1, h3⟩
  have hS0 : ∀ g n c, w.cell? ⟨B, 10, none⟩ = some (.slice (some ⟨g, 0, none⟩) n c) → ByTy base 141 w g := fun g n c hc => by
    obtain ⟨h1, _, h3⟩ := hb.cellTy (k := 10) (by omega) (by omega) hc
    exact .inl ⟨h1, h3⟩
  have HS0 := Lib.hid hS0
  have HB_ := Lib.hid hb
  have HROW := Lib.hid hrow
  have HTY := Lib.hid hty
  have HF := Lib.hid hf
  have HU := Lib.hid hu
  have HBA := Lib.hid hbase
  obtain ⟨N, hN⟩ : ∃ N, (H 10).length = N := ⟨_, rfl⟩
  have HN := Lib.hid hN
  have hfew : N ≤ 30000 := by rw [← hN]; exact Nat.le_trans (hb.few 10 (by omega) (by omega)) hb.most
  clear hb hrow hf hu hbase hN hty hS0
  go_enter Tryz.func61, Tryz.ntmps61
  go_wp2_with fail
  go_loopw [2] (fun s wr => ∃ j : Nat, j ≤ N ∧ s = .int .i64 j ∧ ∃ H', BookAt base wr B m H' ∧ wr.cell? ⟨B, 10, none⟩ = w.cell? ⟨B, 10, none⟩ ∧ (H' 10).length = N ∧ (∀ k, k ≠ 10 → H' k = H k) ∧ (∀ i, j ≤ i → (H' 10)[i]? = (H 10)[i]?) ∧ (∀ (i : Nat) (h : Hb), i < j → (H 10)[i]? = some h → ∃ h', (H' 10)[i]? = some h' ∧ Grown kParam base w wr h h') ∧ (∀ (i : Nat) (h : Hb), j ≤ i → (H 10)[i]? = some h → RowIs kParam base wr h (marksG kParam h.n h.len)) ∧ Keeps (fun i => ByTy base 144 w i ∨ ByTy base 141 w i) w wr) (fun s _ => N - (intOf s).toNat)
  case atStart => exact ⟨0, Nat.zero_le _, rfl, H, HB_.out, rfl, HN.out, fun _ _ => rfl, fun i _ => rfl, fun i h hi => absurd hi (by omega), fun i h _ hi => HROW.out i h hi, Keeps.refl _ _⟩
  case round =>
    obtain ⟨j, hj, rfl, H', hbk, hBc, hsl, hoth, hsame, hdone, htodo, hkp⟩ := hrel
    by_cases hlt : j < N
    · obtain ⟨h, hh⟩ : ∃ h, (H 10)[j]? = some h := ⟨_, List.getElem?_eq_getElem (by rw [HN.out]; exact hlt)⟩
      have hh' : (H' 10)[j]? = some h := by rw [hsame j (Nat.le_refl _)]; exact hh
      obtain ⟨gS, cS, hB1, hcS, hgS, hbS, hcurS, hrowS⟩ := hbk.at_ (by omega) (by omega) hh'
      have hxs := htodo j h (Nat.le_refl _) hh
      have hn := HF.out.n j h hh
      have hlen := HF.out.len j h hh
      rw [hsl] at hB1
      have hBW : ByTy base 141 w gS := HS0.out gS N cS (hBc.symm.trans hB1)
      have hs3 : (Tryz.prog.info? 141).map (·.size) = some (hbC h).length := size_hParam
      have hs4 : (Tryz.prog.info? 141).map (·.size) = some (hbC h).toArray.size := size_hParam
      have h1 : (hbC h).toArray.all (·.oneCell') = true := all_oneCell_toArray (hbC_one h)
      have HK4 : Hid (Blk (wr.alloc (.cells zHb.toArray 141)) wr.heap.size 141 zHb) := Lib.hid (Blk.new wr 141 zHb)
      have HTH : Hid ((wr.alloc (.cells zHb.toArray 141)).there wr.heap.size 0 (hbC h).toArray.size) := Lib.hid (HK4.out.there 0 _ (by simp [zHb, hbC]))
      have hk5 : Blk ((wr.alloc (.cells zHb.toArray 141)).setCells wr.heap.size 0 (hbC h)) wr.heap.size 141 (hbC h) := by
        have := Blk.setCells (hbC h) 0 _ _ HK4.out (by simp [zHb, hbC])
        rwa [splice_whole _ _ (by simp [zHb, hbC])] at this
      have hB5 : Below wr.heap.size wr ((wr.alloc (.cells zHb.toArray 141)).setCells wr.heap.size 0 (hbC h)) := below_keeps (new_belowB _ _) (Keeps.setCells (g := wr.heap.size) _ 0 _) (Nat.le_refl _) (fun i hi => by have e : i = wr.heap.size := hi; omega)
      obtain ⟨w5, hw5⟩ : ∃ w5, (wr.alloc (.cells zHb.toArray 141)).setCells wr.heap.size 0 (hbC h) = w5 := ⟨_, rfl⟩
      rw [hw5] at hk5 hB5
      have HW5 := Lib.hid hw5
      have HBK5 := Lib.hid (hbk.below hB5)
      have HX5 := Lib.hid (hxs.below hB5)
      have HK5 := Lib.hid hk5
      have HWZ : Hid (w.heap.size ≤ w5.heap.size) := Lib.hid (Nat.le_trans hkp.size hB5.size)
      have HROWS := Lib.hid (hrowS _ rfl)
      have HS3 := Lib.hid hs3
      have HS4 := Lib.hid hs4
      have H1 := Lib.hid h1
      have HH := Lib.hid hh
      have HH' := Lib.hid hh'
      have HSL := Lib.hid hsl
      have HOTH := Lib.hid hoth
      have HSAME := Lib.hid hsame
      have HDONE : Hid (∀ (i : Nat) (h2 : Hb), i < j → (H 10)[i]? = some h2 → ∃ h', (H' 10)[i]? = some h' ∧ Grown kParam base w w5 h2 h') := Lib.hid (fun i h2 hi hi2 => by
        obtain ⟨h3, e3, g3⟩ := hdone i h2 hi hi2
        exact ⟨h3, e3, g3.below hB5⟩)
      have HTODO := Lib.hid (fun (i : Nat) (h2 : Hb) (hi : j ≤ i) (hi2 : (H 10)[i]? = some h2) => (htodo i h2 hi hi2).below hB5)
      have HKP := Lib.hid (hkp.below hB5)
      have HCUR : Hid (∃ cur, w5.heap[gS]? = some (.cells cur 141 (0, 0))) := Lib.hid (by
        obtain ⟨cur, hc⟩ := hcurS
        exact ⟨cur, (hB5.block gS hgS).trans hc⟩)
      have HBS := Lib.hid hbS
      have HGS : Hid (gS < w5.heap.size) := Lib.hid (Nat.lt_of_lt_of_le hgS hB5.size)
      have HBW := Lib.hid hBW
      have HBc5 : Hid (w5.cell? ⟨B, 10, none⟩ = w.cell? ⟨B, 10, none⟩) := Lib.hid ((hB5.cell (p := ⟨B, 10, none⟩) hbk.lt).trans hBc)
      have HB5c : Hid (w5.cell? ⟨B, 10, none⟩ = some (.slice (some ⟨gS, 0, none⟩) N cS)) := Lib.hid ((hB5.cell (p := ⟨B, 10, none⟩) hbk.lt).trans hB1)
      have HG : Hid (∀ k, h.l.ownBlock = some k → k ≠ wr.heap.size) := Lib.hid (fun k hk => by have := (hxs.ty hk).2.1; omega)
      have HGZ : Hid (wr.heap.size < w5.heap.size) := Lib.hid hk5.lt
      have c0 : w5.cell? ⟨wr.heap.size, 0, none⟩ = some (.slice h.A h.len h.cap) := HK5.out.cell 0
      have c2 : w5.cell? ⟨wr.heap.size, 2, none⟩ = some (.int .i64 (h.n : Int)) := HK5.out.cell 2
      obtain ⟨Y, hY⟩ : ∃ Y, hbC h = Y := ⟨_, rfl⟩
      obtain ⟨Z, hZ⟩ : ∃ Z, zHb = Z := ⟨_, rfl⟩
      have HZ := Lib.hid hZ
      rw [hY] at HROWS HS3 HS4 H1 HTH HW5
      rw [hZ] at HTH HW5
      have j0 : (0 : Int) ≤ (j : Int) := by omega
      have j1 : (j : Int) < (N : Int) := by omega
      have jadd : IntKind.i64.wrap ((j : Int) + 1) = (j : Int) + 1 := IntWalk.i64_in _ (by omega)
      clear hk5 hB5 hw5 hY hZ hbk hrowS hcurS hxs hs3 hs4 h1 hh hh' hsl hoth hsame hdone htodo hkp HK4 hBW hBc
      go_wp2_with (first
        | (refine wpList_load_mid rfl 141 _ rfl gS (j * 3) rfl Y _ HROWS.out HU.out rfl HS3.out ?_)
        | (refine wpList_value (o := ⟨some 3, .alloc 141, _, _, _, _⟩) (v := .pointer (some ⟨wr.heap.size, 0, none⟩)) (w' := wr.alloc (.cells zHb.toArray 141)) rfl (by kernel_rfl) ?_; rw [HZ.out])
        | (refine wpList_store_mid rfl 141 _ _ rfl wr.heap.size 0 Y.toArray rfl rfl HTH.out HS4.out H1.out ?_; rw [show Y.toArray.toList = Y from rfl, HW5.out]))
      clear HW5 HTH HROWS hgS hB1
      generalize wr.heap.size = G at *
      clear wr
      go_loopw [4, 5] (fun v s wr => ∃ k : Nat, k ≤ 40 ∧ s = .int .i64 k ∧ RowG kParam.E kParam.q base wr v (h.len + k) (marksG kParam h.n (h.len + k)) ∧ Low kParam wr h ∧ Keeps (fun x => h.l.ownBlock = some x ∨ w5.heap.size ≤ x) w5 wr ∧ ∀ x, v.ownBlock = some x → h.l.ownBlock = some x ∨ w5.heap.size ≤ x) (fun _ s _ => 40 - (intOf s).toNat)
      case atStart => exact ⟨0, Nat.zero_le _, rfl, HX5.out, RowIs.low (h := h) okParam HX5.out, Keeps.refl _ _, fun x hx => .inl hx⟩
      case round =>
        obtain ⟨k, hk, rfl, hrk, hlo, hkk, hvb⟩ := hrel
        obtain ⟨AA, cc, rfl, -⟩ := hrk.slice
        have hGM : ¬ (h.l.ownBlock = some G ∨ w5.heap.size ≤ G) := by
          rintro (h1 | h1)
          · exact HG.out _ h1 rfl
          · have := HGZ.out; omega
        have hkq := HK5.out.keep hkk hGM
        have q2 : wr.cell? ⟨G, 2, none⟩ = some (.int .i64 (h.n : Int)) := hkq.cell 2
        by_cases hkl : k < 40
        · have hwz : w5.heap.size ≤ wr.heap.size := hkk.size
          have hownlt : ∀ g, h.l.ownBlock = some g → g < wr.heap.size := fun g hg => by have := (HX5.out.ty hg).2.1; omega
          have HOL := Lib.hid hownlt
          have HLO := Lib.hid hlo
          have HKK := Lib.hid hkk
          have HVB := Lib.hid hvb
          have HRK := Lib.hid hrk
          have HZS : Hid (base ≤ wr.heap.size) := Lib.hid (by have := HWZ.out; have := HBA.out; omega)
          have kadd : IntKind.i64.wrap ((k : Int) + 1) = (k : Int) + 1 := IntWalk.i64_in _ (by omega)
          clear hrk hlo hkk hvb hkq hGM hownlt
          go_wp2_with fail
          refine (markParam_any h.n wr hn.2).mono ?_; rintro e wm ⟨rfl, hBm⟩
          have HRKm := Lib.hid (HRK.out.below hBm)
          have HZSm : Hid (base ≤ wm.heap.size) := Lib.hid (Nat.le_trans HZS.out hBm.size)
          have HLOm := Lib.hid (HLO.out.keep (Keeps.of_below (M := fun _ => False) hBm) (fun _ _ h => h))
          have HKKm := Lib.hid (HKK.out.below hBm)
          have HOLm : Hid (∀ g, h.l.ownBlock = some g → g < wm.heap.size) := Lib.hid (fun g hg => Nat.lt_of_lt_of_le (HOL.out g hg) hBm.size)
          have hwzm : w5.heap.size ≤ wm.heap.size := Nat.le_trans hwz hBm.size
          clear hBm HRK HZS HLO HKK HOL q2 hwz
          go_wp2_with (at_builtin; refine append_el (W := wm) base rfl _ _ 139 144 (.agg #[.int .u16 0, .slice none 0 0]) 2 32 rfl Tryz.underlying139 info_Param rfl (by omega) (by omega) AA (h.len + k) cc (marksG kParam h.n (h.len + k)) [.int .u16 (h.n : Int), .slice none 0 0] rfl (okParam.one h.n) rfl rfl HRKm.out HZSm.out (by omega) ?_; intro v1 w1 ho1 hc1)
          go_roundw
          case rel =>
            have HLO := HLOm
            have HKK := HKKm
            have HOL := HOLm
            have hwz := hwzm
            have ho1' : RowG kParam.E kParam.q base w1 v1 (h.len + (k + 1)) (marksG kParam h.n (h.len + (k + 1))) := by rw [← Nat.add_assoc, marksG_snoc]; exact ho1
            refine ⟨k + 1, by omega, by go_num, ho1', ?_⟩
            rcases hc1 with ⟨e1, e2, k1⟩ | ⟨b, e1, hb1, k1⟩
            · refine ⟨fun g hg => ?_, HKK.out.trans (k1.mono (fun x hx => HVB.out x hx)), fun x hx => HVB.out x (by rw [← e1]; exact hx)⟩
              obtain ⟨x, hx⟩ : ∃ x, (Value.slice AA (h.len + k) cc).ownBlock = some x := Option.ne_none_iff_exists'.1 e2
              by_cases hxg : x = g
              · subst hxg
                have e3 : v1.ownBlock = some x := by rw [e1]; exact hx
                exact ⟨(ho1'.ty e3).2.1, (ho1'.ty e3).2.2, fun i hi => RowG.low okParam ho1' e3 i (by omega)⟩
              · have hnm : ¬ (Value.slice AA (h.len + k) cc).ownBlock = some g := fun hm => by
                  have : some x = some g := hx.symm.trans hm
                  injection this with this
                  exact hxg this
                obtain ⟨l1, ⟨cur, l2⟩, l3⟩ := HLO.out g hg
                exact ⟨Nat.lt_of_lt_of_le l1 k1.size, ⟨cur, (k1.block g l1 hnm).trans l2⟩, fun i hi => rangeAt_keep (l3 i hi) k1 l1 hnm⟩
            · refine ⟨HLO.out.keep (Keeps.of_below (M := fun _ => False) k1) (fun _ _ hf => hf), HKK.out.below k1, fun x hx => .inr ?_⟩
              rw [e1] at hx
              injection hx with hx
              omega
          case measure => simp [intOf]; omega
        · obtain rfl : k = 40 := by omega
          have hMty : ∀ x, (h.l.ownBlock = some x ∨ w5.heap.size ≤ x) → ByTy base 144 w5 x := fun x hx => by
            rcases hx with hx | hx
            · obtain ⟨h1, _, h3⟩ := HX5.out.ty hx
              exact .inl ⟨h1, h3⟩
            · exact .inr hx
          have hbk6 := HBK5.out.keepFar hkk hMty okParam.far
          have hBM : ¬ (h.l.ownBlock = some B ∨ w5.heap.size ≤ B) := fun hm => by
            rcases hMty B hm with ⟨_, cur, h1⟩ | h1
            · obtain ⟨S, hS, _⟩ := HBK5.out.box
              exact okParam.far.1 (ty_one h1 hS)
            · have := HBK5.out.lt; omega
          have hB1 : wr.cell? ⟨B, 10, none⟩ = some (.slice (some ⟨gS, 0, none⟩) N cS) := (hkk.cell (p := ⟨B, 10, none⟩) HBK5.out.lt hBM).trans HB5c.out
          have hBc6 : wr.cell? ⟨B, 10, none⟩ = w.cell? ⟨B, 10, none⟩ := (hkk.cell (p := ⟨B, 10, none⟩) HBK5.out.lt hBM).trans HBc5.out
          obtain ⟨_, hg7, cur7, hcur7⟩ := hbk6.cellTy (k := 10) (by omega) (by omega) hB1
          obtain ⟨g7, c7, hB7, _, _, _, _, hrow7⟩ := hbk6.at_ (k := 10) (by omega) (by omega) HH'.out
          have eg : g7 = gS := by
            rw [hB1] at hB7
            injection hB7 with e
            injection e with e _ _
            injection e with e
            injection e with e _ _
            exact e.symm
          subst eg
          have hc7 : wr.cell? ⟨g7, j * 3 + 1, none⟩ = some (.slice h.A2 h.len2 h.cap2) := hrow7 _ rfl 1 _ rfl
          have hf7 := frozen_of_row wr g7 (j * 3 + 1) cur7 141 hcur7
          have hset : Keeps (· = g7) wr (wr.setCell ⟨g7, j * 3 + 1, none⟩ (.slice AA (h.len + 40) cc)) := Keeps.set1 wr ⟨g7, j * 3 + 1, none⟩ _
          have hvs : ∀ {v2 : Value} {n2 : Nat} {xs2 : List Value}, RowG kParam.E kParam.q base wr v2 n2 xs2 → ∀ k, v2.ownBlock = some k → ¬ k = g7 := fun ho k hk e => by
            obtain ⟨_, _, cur, hc⟩ := ho.ty hk
            rw [e] at hc
            exact okParam.far.2 10 (by decide) (ty_one hcur7 hc)
          have hother : ∀ (i : Nat) (h2 : Hb), i ≠ j → (H 10)[i]? = some h2 → ∀ k, h2.l.ownBlock = some k → k < w5.heap.size ∧ ¬ (h.l.ownBlock = some k ∨ w5.heap.size ≤ k) := fun i h2 hij hi2 k hk => by
            have h5 := (HTY.out i h2 hi2 k hk).1
            have h6 := HWZ.out
            refine ⟨by omega, ?_⟩
            rintro (h7 | h7)
            · exact HF.out.unlike j i h h2 HH.out hi2 (by omega) k h7 hk
            · omega
          have hown7 : ∀ (i : Nat) (h2 : Hb), (H 10)[i]? = some h2 → ∀ k, h2.l.ownBlock = some k → k < wr.heap.size ∧ ¬ k = g7 := fun i h2 hi2 k hk => by
            obtain ⟨h5, _, cur, h6⟩ := HTY.out i h2 hi2 k hk
            refine ⟨by have := HWZ.out; have := hkk.size; omega, fun e => ?_⟩
            rcases HBW.out with ⟨_, cur2, h8⟩ | h8
            · rw [e] at h6
              exact okParam.far.2 10 (by decide) (ty_one h8 h6)
            · omega
          have hjl : j < (H' 10).length := by rw [HSL.out]; exact hlt
          have hdone8 : ∀ (i : Nat) (h2 : Hb), i < j + 1 → (H 10)[i]? = some h2 → ∃ h', ((H' 10).set j (h.grown AA cc))[i]? = some h' ∧ Grown kParam base w (wr.setCell ⟨g7, j * 3 + 1, none⟩ (.slice AA (h.len + 40) cc)) h2 h' := fun i h2 hi hi2 => by
            by_cases hij : i = j
            · subst hij
              rw [HH.out] at hi2
              injection hi2 with hi2
              subst hi2
              refine ⟨h.grown AA cc, by rw [List.getElem?_set_self hjl], ⟨AA, cc, rfl⟩, hrk.keep hset (hvs hrk), hlo.keep hset (fun g hg => (hown7 i h HH.out g hg).2), fun x hx => ?_⟩
              rcases hvb x hx with h1 | h1
              · exact .inl h1
              · exact .inr (Nat.le_trans HWZ.out h1)
            · obtain ⟨h3, e3, g3⟩ := HDONE.out i h2 (by omega) hi2
              have g4 : Grown kParam base w wr h2 h3 := g3.keep hkk (fun k hk => (hother i h2 hij hi2 k hk).2) (fun k hk => by
                rintro (h7 | h7)
                · rcases g3.blk k hk with h8 | h8
                  · exact (hother i h2 hij hi2 k h8).2 (.inl h7)
                  · have := (HTY.out j h HH.out k h7).1; omega
                · have := (g3.row.ty hk).2.1; omega)
              exact ⟨h3, by rw [List.getElem?_set_ne (by omega)]; exact e3, g4.keep hset (fun k hk => (hown7 i h2 hi2 k hk).2) (fun k hk => hvs g4.row k hk)⟩
          have htodo8 : ∀ (i : Nat) (h2 : Hb), j + 1 ≤ i → (H 10)[i]? = some h2 → RowIs kParam base (wr.setCell ⟨g7, j * 3 + 1, none⟩ (.slice AA (h.len + 40) cc)) h2 (marksG kParam h2.n h2.len) := fun i h2 hi hi2 => by
            have h5 := (HTODO.out i h2 (by omega) hi2).keep hkk (fun k hk => (hother i h2 (by omega) hi2 k hk).2)
            exact h5.keep hset (fun k hk => (hown7 i h2 hi2 k hk).2)
          have hkp8 : Keeps (fun i => ByTy base 144 w i ∨ ByTy base 141 w i) w (wr.setCell ⟨g7, j * 3 + 1, none⟩ (.slice AA (h.len + 40) cc)) := (HKP.out.trans (hkk.mono (fun x hx => by
            rcases hx with hx | hx
            · exact .inl (.inl (HTY.out j h HH.out x hx).2)
            · have := HWZ.out; exact .inl (.inr (by omega))))).setCell (.inl (.inr HBW.out)) _
          have hb8 := hbk6.note (k := 10) (by omega) (by omega) HH'.out hB1 AA cc
          have hBc8 : (wr.setCell ⟨g7, j * 3 + 1, none⟩ (.slice AA (h.len + 40) cc)).cell? ⟨B, 10, none⟩ = w.cell? ⟨B, 10, none⟩ := (hset.cell (p := ⟨B, 10, none⟩) hbk6.lt (fun e => by
            obtain ⟨S, hS, _⟩ := hbk6.box
            have e' : B = g7 := e
            rw [← e'] at hcur7
            exact HT_book 10 (by decide) (ty_one hcur7 hS))).trans hBc6
          have HB8 := Lib.hid hb8
          have HBc8 := Lib.hid hBc8
          have HD8 := Lib.hid hdone8
          have HT8 := Lib.hid htodo8
          have HK8 := Lib.hid hkp8
          clear hrk hlo hkk hvb hkq hGM hbk6 hBM hcur7 hB7 hrow7 hset hvs hown7 hother hjl hdone8 htodo8 hkp8 hb8 hBc8 hBc6 hMty
          go_wp2_with fail
          go_roundw
          case rel =>
            refine ⟨j + 1, by omega, by go_num, upd H' 10 ((H' 10).set j (h.grown AA cc)), HB8.out, HBc8.out, by rw [upd_same, List.length_set]; exact HSL.out, fun k hk => by rw [upd_ne _ _ hk]; exact HOTH.out k hk, fun i hi => ?_, fun i h2 hi hi2 => by rw [upd_same]; exact HD8.out i h2 hi hi2, HT8.out, HK8.out⟩
            rw [upd_same, List.getElem?_set_ne (by omega)]
            exact HSAME.out i (by omega)
          case measure => simp [intOf]; omega
    · obtain rfl : j = N := by omega
      obtain ⟨AS, cS, hB1, _⟩ := hbk.cell (k := 10) (by omega) (by omega)
      rw [hsl] at hB1
      have HBK := Lib.hid hbk
      have HSL := Lib.hid hsl
      have HOTH := Lib.hid hoth
      have HD := Lib.hid (fun (i : Nat) (h : Hb) (hi : (H 10)[i]? = some h) => hdone i h (by have := (List.getElem?_eq_some_iff.1 hi).1; have := HN.out; omega) hi)
      have HKP := Lib.hid hkp
      clear hbk hdone htodo hkp hsame hBc hoth
      go_wp2_with fail
      go_end0
      exact ⟨rfl, ⟨H', HBK.out, by rw [HSL.out, HN.out], HOTH.out, HD.out⟩, HKP.out⟩
end Go.Proofs.YtgecfcdafbedaaaGreatDoor
