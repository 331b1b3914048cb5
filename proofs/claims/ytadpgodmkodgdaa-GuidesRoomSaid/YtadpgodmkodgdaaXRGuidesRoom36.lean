/- The walk over guides.Origin. (Printed by wip/mkgui2.py.). -/
import Derived.Test.YtadpgodmkodgdaaXRGuidesRoom34
import Derived.Test.YtadpgodmkodgdaaXRGuidesRoom35
namespace Go.Proofs.Ytadpgodmkodgdaa
open Go.RowKit
set_option linter.unusedSimpArgs false
set_option linter.unusedVariables false

/-- Where a packet came from. -/
def orgR (key : List Int) (kind : Int) (f t : List Int) (ps : List Piece) : Int × Int :=
  if ¬ kind = 1 then (0, 4) else if ¬ ps.map (·.1) = [65498, 65502] then (0, 4) else
    if ¬ cntE ((ps[0]?.getD (0, [])).2.length) = 0 then (0, 4) else if cntV (ps[0]?.getD (0, [])).2 (ps[0]?.getD (0, [])).2.length = 0 then (0, 4) else
      if isV key kind f t ps 65502 = true then (cntV (ps[0]?.getD (0, [])).2 (ps[0]?.getD (0, [])).2.length, 0) else (0, 11)
def OrgAns (r : Int × Int) (w : World) (e : Ending) (w' : World) : Prop := e = .returned (.tuple #[.int .u32 r.1, .int .i64 r.2]) ∧ Below w.heap.size w w'
set_option maxRecDepth 100000 in
set_option maxHeartbeats 4000000 in
theorem origin_any (key : List Int) (kind : Int) (f t : List Int) (ps : List Piece) (A : Option Addr) (n c : Nat) (w : World) (hps : Ps w A n ps) (hn : n < 1099511627776) (hf : f.length = 16) (ht : t.length = 16) (hfb : isB f) (htb : isB t) (hk : 0 ≤ kind ∧ kind ≤ 255)
    (hkl : key.length = 32) (hkb : Bytes key) :
    Calls Try.prog 13 #[.agg (pktC kind f t (.slice A n c)).toArray, .agg (key.map (Value.int .u8)).toArray] w (OrgAns (orgR key kind f t ps) w) := by
  obtain ⟨C, hC⟩ : ∃ C, pktC kind f t (.slice A n c) = C := ⟨_, rfl⟩
  have hcl : C.length = 34 := by rw [← hC]; exact pktC_length hf ht
  have hc33 : C[33]? = some (.slice A n c) := by rw [← hC, pktC, List.getElem?_cons_succ, List.getElem?_append_right (by simp [hf]), List.getElem?_append_right (by simp [hf, ht])]; simp [hf, ht]
  have hc0 : C[0]? = some (.int .u8 kind) := by rw [← hC]; rfl
  have hgd := fun (W : World) (hb : Below w.heap.size w W) => guided_any key kind f t ps A n c W (hps.below hb) hn hf ht hfb htb hk hkl hkb
  have hty := fun (W : World) (hb : Below w.heap.size w W) => (hps.tyRow hn).below hb
  obtain ⟨X, hX⟩ : ∃ X, key.map (Value.int .u8) = X := ⟨_, rfl⟩
  have hxl : X.length = 32 := by rw [← hX, List.length_map, hkl]
  rw [hX, hC] at hgd ⊢
  have HGD := Lib.hid hgd
  have HTY := Lib.hid hty
  have HPS := Lib.hid hps
  have HC33 := Lib.hid hc33
  have HC0 := Lib.hid hc0
  have HSC : Hid ((Try.prog.info? 45).map (·.size) = some C.length) := Lib.hid (by rw [hcl]; exact info_pkt)
  have HSX : Hid ((Try.prog.info? 41).map (·.size) = some X.length) := Lib.hid (by rw [hxl]; exact size_sumt)
  have HU := Lib.hid Try.underlying45
  have HUS := Lib.hid Try.underlying41
  have HNL : Hid (ps.length = n) := Lib.hid hps.len
  clear hps hn hcl hC hf ht hfb htb hkl hkb hgd hX hxl hc33 hc0 hty
  by_cases hk1 : kind = 1
  · by_cases hsame : ps.map (·.1) = [65498, 65502]
    · have hn2 : ps.length = 2 := by have := congrArg List.length hsame; simpa using this
      obtain ⟨p0, hp0⟩ : ∃ p, ps[0]? = some p := ⟨_, List.getElem?_eq_getElem (by omega)⟩
      obtain ⟨ty0, body⟩ := p0
      have HSAME : Hid (decide (ps.map (·.1) = [65498, 65502]) = true) := Lib.hid (by simpa using hsame)
      have H0 := Lib.hid hp0
      have hgd0 : ps[0]?.getD (0, []) = (ty0, body) := by rw [hp0]; rfl
      have HN2 : Hid (n = 2) := Lib.hid (by have := HNL.out; omega)
      have hR0 : orgR key kind f t ps = if ¬ cntE body.length = 0 then (0, 4) else if cntV body body.length = 0 then (0, 4) else if isV key kind f t ps 65502 = true then (cntV body body.length, 0) else (0, 11) := by
        rw [orgR, if_neg (by simpa using hk1), if_neg (by simpa using hsame), hgd0]
      subst hk1
      clear hsame hn2 hp0 hgd0
      by_cases hce : cntE body.length = 0
      · obtain ⟨V, hV⟩ : ∃ V, cntV body body.length = V := ⟨_, rfl⟩
        by_cases hv0 : V = 0
        · have HR : Hid (orgR key 1 f t ps = (0, 4)) := Lib.hid (by rw [hR0, if_neg (by simpa using hce), if_pos (by rw [hV]; exact hv0)])
          have HCE := Lib.hid hce
          have HVV : Hid (cntV body body.length = 0) := Lib.hid (by rw [hV]; exact hv0)
          clear hR0 hce hV hv0
          go_enter Try.func13, Try.ntmps13
          go_wp2_with (first
            | ((with_reducible refine wpList_isK (o := ⟨some 2, _, _, _, _, _⟩) ?_); refine wpList_boxT (o := ⟨some 2, .box 45 _, _, _, _, _⟩) rfl 45 _ rfl C rfl ?_; intro w1 HP1 HB1; obtain ⟨P, hP⟩ : ∃ R, w.heap.size = R := ⟨_, rfl⟩; rw [hP] at HP1 ⊢; have HPP := Lib.hid hP; clear hP)
            | ((with_reducible refine wpList_isK (o := ⟨some 3, _, _, _, _, _⟩) ?_); refine wpList_boxT (o := ⟨some 3, .box 41 _, _, _, _, _⟩) rfl 41 _ rfl X rfl ?_; intro w2 HK2 HB2'; obtain ⟨Q, hQ⟩ : ∃ R, w1.heap.size = R := ⟨_, rfl⟩; rw [hQ] at HK2 ⊢; have HB2 := Lib.hid (HB1.out.trans (HB2'.out.mono HB1.out.size)); have HP2 := Lib.hid (HP1.out.below HB2'.out HP1.out.lt); have d33 : w2.cell? ⟨P, 33, none⟩ = some (.slice A n c) := (HP2.out.cell 33).trans HC33.out; clear hQ HB2'))
          have hbn := new_below w2 (.cells #[.int .u16 65498, .int .u16 65502] 52)
          have HEQ := Lib.hid (eqf_any A n c w2.heap.size 2 (ps.map (·.1)) [65498, 65502] _ (HTY.out _ (HB2.out.trans (hbn.mono HB2.out.size))) (Blk.new w2 52 [.int .u16 65498, .int .u16 65502]) rfl (by omega))
          have HBN := Lib.hid hbn
          clear hbn
          refine HEQ.out.mono ?_
          rintro e1 w3 ⟨rfl, hb3⟩
          have hb23 : Below w2.heap.size w2 w3 := HBN.out.trans (hb3.mono HBN.out.size)
          have HB3 := Lib.hid (HB2.out.trans (hb23.mono HB2.out.size))
          have HP3 := Lib.hid (HP2.out.below hb23 HP2.out.lt)
          have HK3 := Lib.hid (HK2.out.below hb23 HK2.out.lt)
          have d0 : w3.cell? ⟨P, 0, none⟩ = some (.int .u8 1) := (HP3.out.cell 0).trans HC0.out
          have d33' : w3.cell? ⟨P, 33, none⟩ = some (.slice A n c) := (HP3.out.cell 33).trans HC33.out
          clear hb3 hb23 d33 HEQ
          rw [HSAME.out]
          obtain ⟨b, off, rfl, hbl, hc⟩ := (HPS.out.below HB3.out).row (by have := HN2.out; omega)
          obtain ⟨t0, body0, B, m, cb, h1, h2, h3, h4, h5, h6, h7⟩ := hc 0 (by have := HN2.out; omega)
          rw [H0.out] at h1
          injection h1 with h1
          injection h1 with h1a h1b
          subst h1a; subst h1b
          have e4 : w3.cell? ⟨b, off + 1, none⟩ = some (.slice B m cb) := by simpa using h4
          have HCNT := Lib.hid (getcount_any B m cb body w3 h5 h6)
          have hml : body.length = m := h5.len
          have HML := Lib.hid hml
          have i0 : (0 : Int) < (n : Int) := by have := HN2.out; omega
          clear h2 h3 h4 h5 h6 h7 hc hbl hml
          go_wp2_with fail
          refine HCNT.out.mono ?_
          rintro e1 w4 ⟨rfl, hb4⟩
          have HB4 := Lib.hid (HB3.out.trans (hb4.mono HB3.out.size))
          have HP4 := Lib.hid (HP3.out.below hb4 HP3.out.lt)
          have HK4 := Lib.hid (HK3.out.below hb4 HK3.out.lt)
          rw [← HML.out]
          clear hb4 HCNT e4 d0 d33'
          rw [HCE.out, HVV.out]
          go_wp2_with fail
          go_ret2
          exact ⟨by rw [HR.out]; rfl, HB4.out⟩
        · have HCE := Lib.hid hce
          have HVV := Lib.hid hV
          have g1 : (V == 0) = false := by simpa using hv0
          cases his : isV key 1 f t ps 65502 with
          | true =>
            have HR : Hid (orgR key 1 f t ps = (V, 0)) := Lib.hid (by rw [hR0, if_neg (by simpa using hce), if_neg (by rw [hV]; exact hv0), if_pos his, hV])
            have HIS := Lib.hid his
            clear hR0 hce hV hv0 his
            go_enter Try.func13, Try.ntmps13
            go_wp2_with (first
              | ((with_reducible refine wpList_isK (o := ⟨some 2, _, _, _, _, _⟩) ?_); refine wpList_boxT (o := ⟨some 2, .box 45 _, _, _, _, _⟩) rfl 45 _ rfl C rfl ?_; intro w1 HP1 HB1; obtain ⟨P, hP⟩ : ∃ R, w.heap.size = R := ⟨_, rfl⟩; rw [hP] at HP1 ⊢; have HPP := Lib.hid hP; clear hP)
              | ((with_reducible refine wpList_isK (o := ⟨some 3, _, _, _, _, _⟩) ?_); refine wpList_boxT (o := ⟨some 3, .box 41 _, _, _, _, _⟩) rfl 41 _ rfl X rfl ?_; intro w2 HK2 HB2'; obtain ⟨Q, hQ⟩ : ∃ R, w1.heap.size = R := ⟨_, rfl⟩; rw [hQ] at HK2 ⊢; have HB2 := Lib.hid (HB1.out.trans (HB2'.out.mono HB1.out.size)); have HP2 := Lib.hid (HP1.out.below HB2'.out HP1.out.lt); have d33 : w2.cell? ⟨P, 33, none⟩ = some (.slice A n c) := (HP2.out.cell 33).trans HC33.out; clear hQ HB2'))
            have hbn := new_below w2 (.cells #[.int .u16 65498, .int .u16 65502] 52)
            have HEQ := Lib.hid (eqf_any A n c w2.heap.size 2 (ps.map (·.1)) [65498, 65502] _ (HTY.out _ (HB2.out.trans (hbn.mono HB2.out.size))) (Blk.new w2 52 [.int .u16 65498, .int .u16 65502]) rfl (by omega))
            have HBN := Lib.hid hbn
            clear hbn
            refine HEQ.out.mono ?_
            rintro e1 w3 ⟨rfl, hb3⟩
            have hb23 : Below w2.heap.size w2 w3 := HBN.out.trans (hb3.mono HBN.out.size)
            have HB3 := Lib.hid (HB2.out.trans (hb23.mono HB2.out.size))
            have HP3 := Lib.hid (HP2.out.below hb23 HP2.out.lt)
            have HK3 := Lib.hid (HK2.out.below hb23 HK2.out.lt)
            have d0 : w3.cell? ⟨P, 0, none⟩ = some (.int .u8 1) := (HP3.out.cell 0).trans HC0.out
            have d33' : w3.cell? ⟨P, 33, none⟩ = some (.slice A n c) := (HP3.out.cell 33).trans HC33.out
            clear hb3 hb23 d33 HEQ
            rw [HSAME.out]
            obtain ⟨b, off, rfl, hbl, hc⟩ := (HPS.out.below HB3.out).row (by have := HN2.out; omega)
            obtain ⟨t0, body0, B, m, cb, h1, h2, h3, h4, h5, h6, h7⟩ := hc 0 (by have := HN2.out; omega)
            rw [H0.out] at h1
            injection h1 with h1
            injection h1 with h1a h1b
            subst h1a; subst h1b
            have e4 : w3.cell? ⟨b, off + 1, none⟩ = some (.slice B m cb) := by simpa using h4
            have HCNT := Lib.hid (getcount_any B m cb body w3 h5 h6)
            have hml : body.length = m := h5.len
            have HML := Lib.hid hml
            have i0 : (0 : Int) < (n : Int) := by have := HN2.out; omega
            clear h2 h3 h4 h5 h6 h7 hc hbl hml
            go_wp2_with fail
            refine HCNT.out.mono ?_
            rintro e1 w4 ⟨rfl, hb4⟩
            have HB4 := Lib.hid (HB3.out.trans (hb4.mono HB3.out.size))
            have HP4 := Lib.hid (HP3.out.below hb4 HP3.out.lt)
            have HK4 := Lib.hid (HK3.out.below hb4 HK3.out.lt)
            rw [← HML.out]
            clear hb4 HCNT e4 d0 d33'
            rw [HCE.out, HVV.out]
            have HGG := Lib.hid (HGD.out w4 HB4.out)
            go_wp2_with (first
              | ((with_reducible refine wpList_isK (o := ⟨some 37, _, _, _, _, _⟩) ?_); refine wpList_loadT (o := ⟨some 37, _, _, _, _, _⟩) rfl 45 _ rfl P rfl 45 C _ HP4.out HU.out rfl HSC.out ?_)
              | ((with_reducible refine wpList_isK (o := ⟨some 38, _, _, _, _, _⟩) ?_); refine wpList_loadT (o := ⟨some 38, _, _, _, _, _⟩) rfl 41 _ rfl Q rfl 41 X _ HK4.out HUS.out rfl HSX.out ?_))
            refine HGG.out.mono ?_
            rintro e1 w5 ⟨rfl, hb5⟩
            rw [HIS.out]
            have HB5 := Lib.hid (HB4.out.trans (hb5.mono HB4.out.size))
            clear hb5 HGG
            go_wp2_with fail
            go_ret2
            exact ⟨by rw [HR.out]; rfl, HB5.out⟩
          | false =>
            have HR : Hid (orgR key 1 f t ps = (0, 11)) := Lib.hid (by rw [hR0, if_neg (by simpa using hce), if_neg (by rw [hV]; exact hv0), if_neg (by rw [his]; simp)])
            have HIS := Lib.hid his
            clear hR0 hce hV hv0 his
            go_enter Try.func13, Try.ntmps13
            go_wp2_with (first
              | ((with_reducible refine wpList_isK (o := ⟨some 2, _, _, _, _, _⟩) ?_); refine wpList_boxT (o := ⟨some 2, .box 45 _, _, _, _, _⟩) rfl 45 _ rfl C rfl ?_; intro w1 HP1 HB1; obtain ⟨P, hP⟩ : ∃ R, w.heap.size = R := ⟨_, rfl⟩; rw [hP] at HP1 ⊢; have HPP := Lib.hid hP; clear hP)
              | ((with_reducible refine wpList_isK (o := ⟨some 3, _, _, _, _, _⟩) ?_); refine wpList_boxT (o := ⟨some 3, .box 41 _, _, _, _, _⟩) rfl 41 _ rfl X rfl ?_; intro w2 HK2 HB2'; obtain ⟨Q, hQ⟩ : ∃ R, w1.heap.size = R := ⟨_, rfl⟩; rw [hQ] at HK2 ⊢; have HB2 := Lib.hid (HB1.out.trans (HB2'.out.mono HB1.out.size)); have HP2 := Lib.hid (HP1.out.below HB2'.out HP1.out.lt); have d33 : w2.cell? ⟨P, 33, none⟩ = some (.slice A n c) := (HP2.out.cell 33).trans HC33.out; clear hQ HB2'))
            have hbn := new_below w2 (.cells #[.int .u16 65498, .int .u16 65502] 52)
            have HEQ := Lib.hid (eqf_any A n c w2.heap.size 2 (ps.map (·.1)) [65498, 65502] _ (HTY.out _ (HB2.out.trans (hbn.mono HB2.out.size))) (Blk.new w2 52 [.int .u16 65498, .int .u16 65502]) rfl (by omega))
            have HBN := Lib.hid hbn
            clear hbn
            refine HEQ.out.mono ?_
            rintro e1 w3 ⟨rfl, hb3⟩
            have hb23 : Below w2.heap.size w2 w3 := HBN.out.trans (hb3.mono HBN.out.size)
            have HB3 := Lib.hid (HB2.out.trans (hb23.mono HB2.out.size))
            have HP3 := Lib.hid (HP2.out.below hb23 HP2.out.lt)
            have HK3 := Lib.hid (HK2.out.below hb23 HK2.out.lt)
            have d0 : w3.cell? ⟨P, 0, none⟩ = some (.int .u8 1) := (HP3.out.cell 0).trans HC0.out
            have d33' : w3.cell? ⟨P, 33, none⟩ = some (.slice A n c) := (HP3.out.cell 33).trans HC33.out
            clear hb3 hb23 d33 HEQ
            rw [HSAME.out]
            obtain ⟨b, off, rfl, hbl, hc⟩ := (HPS.out.below HB3.out).row (by have := HN2.out; omega)
            obtain ⟨t0, body0, B, m, cb, h1, h2, h3, h4, h5, h6, h7⟩ := hc 0 (by have := HN2.out; omega)
            rw [H0.out] at h1
            injection h1 with h1
            injection h1 with h1a h1b
            subst h1a; subst h1b
            have e4 : w3.cell? ⟨b, off + 1, none⟩ = some (.slice B m cb) := by simpa using h4
            have HCNT := Lib.hid (getcount_any B m cb body w3 h5 h6)
            have hml : body.length = m := h5.len
            have HML := Lib.hid hml
            have i0 : (0 : Int) < (n : Int) := by have := HN2.out; omega
            clear h2 h3 h4 h5 h6 h7 hc hbl hml
            go_wp2_with fail
            refine HCNT.out.mono ?_
            rintro e1 w4 ⟨rfl, hb4⟩
            have HB4 := Lib.hid (HB3.out.trans (hb4.mono HB3.out.size))
            have HP4 := Lib.hid (HP3.out.below hb4 HP3.out.lt)
            have HK4 := Lib.hid (HK3.out.below hb4 HK3.out.lt)
            rw [← HML.out]
            clear hb4 HCNT e4 d0 d33'
            rw [HCE.out, HVV.out]
            have HGG := Lib.hid (HGD.out w4 HB4.out)
            go_wp2_with (first
              | ((with_reducible refine wpList_isK (o := ⟨some 37, _, _, _, _, _⟩) ?_); refine wpList_loadT (o := ⟨some 37, _, _, _, _, _⟩) rfl 45 _ rfl P rfl 45 C _ HP4.out HU.out rfl HSC.out ?_)
              | ((with_reducible refine wpList_isK (o := ⟨some 38, _, _, _, _, _⟩) ?_); refine wpList_loadT (o := ⟨some 38, _, _, _, _, _⟩) rfl 41 _ rfl Q rfl 41 X _ HK4.out HUS.out rfl HSX.out ?_))
            refine HGG.out.mono ?_
            rintro e1 w5 ⟨rfl, hb5⟩
            rw [HIS.out]
            have HB5 := Lib.hid (HB4.out.trans (hb5.mono HB4.out.size))
            clear hb5 HGG
            go_wp2_with fail
            go_ret2
            exact ⟨by rw [HR.out]; rfl, HB5.out⟩
      · have HR : Hid (orgR key 1 f t ps = (0, 4)) := Lib.hid (by rw [hR0, if_pos hce])
        obtain ⟨E, hE⟩ : ∃ E, cntE body.length = E := ⟨_, rfl⟩
        rw [hE] at hce
        have HE := Lib.hid hE
        have g1 : (E == 0) = false := by simpa using hce
        have g2 : (E != 0) = true := by simp [g1, bne]
        clear hR0 hce hE
        go_enter Try.func13, Try.ntmps13
        go_wp2_with (first
          | ((with_reducible refine wpList_isK (o := ⟨some 2, _, _, _, _, _⟩) ?_); refine wpList_boxT (o := ⟨some 2, .box 45 _, _, _, _, _⟩) rfl 45 _ rfl C rfl ?_; intro w1 HP1 HB1; obtain ⟨P, hP⟩ : ∃ R, w.heap.size = R := ⟨_, rfl⟩; rw [hP] at HP1 ⊢; have HPP := Lib.hid hP; clear hP)
          | ((with_reducible refine wpList_isK (o := ⟨some 3, _, _, _, _, _⟩) ?_); refine wpList_boxT (o := ⟨some 3, .box 41 _, _, _, _, _⟩) rfl 41 _ rfl X rfl ?_; intro w2 HK2 HB2'; obtain ⟨Q, hQ⟩ : ∃ R, w1.heap.size = R := ⟨_, rfl⟩; rw [hQ] at HK2 ⊢; have HB2 := Lib.hid (HB1.out.trans (HB2'.out.mono HB1.out.size)); have HP2 := Lib.hid (HP1.out.below HB2'.out HP1.out.lt); have d33 : w2.cell? ⟨P, 33, none⟩ = some (.slice A n c) := (HP2.out.cell 33).trans HC33.out; clear hQ HB2'))
        have hbn := new_below w2 (.cells #[.int .u16 65498, .int .u16 65502] 52)
        have HEQ := Lib.hid (eqf_any A n c w2.heap.size 2 (ps.map (·.1)) [65498, 65502] _ (HTY.out _ (HB2.out.trans (hbn.mono HB2.out.size))) (Blk.new w2 52 [.int .u16 65498, .int .u16 65502]) rfl (by omega))
        have HBN := Lib.hid hbn
        clear hbn
        refine HEQ.out.mono ?_
        rintro e1 w3 ⟨rfl, hb3⟩
        have hb23 : Below w2.heap.size w2 w3 := HBN.out.trans (hb3.mono HBN.out.size)
        have HB3 := Lib.hid (HB2.out.trans (hb23.mono HB2.out.size))
        have HP3 := Lib.hid (HP2.out.below hb23 HP2.out.lt)
        have HK3 := Lib.hid (HK2.out.below hb23 HK2.out.lt)
        have d0 : w3.cell? ⟨P, 0, none⟩ = some (.int .u8 1) := (HP3.out.cell 0).trans HC0.out
        have d33' : w3.cell? ⟨P, 33, none⟩ = some (.slice A n c) := (HP3.out.cell 33).trans HC33.out
        clear hb3 hb23 d33 HEQ
        rw [HSAME.out]
        obtain ⟨b, off, rfl, hbl, hc⟩ := (HPS.out.below HB3.out).row (by have := HN2.out; omega)
        obtain ⟨t0, body0, B, m, cb, h1, h2, h3, h4, h5, h6, h7⟩ := hc 0 (by have := HN2.out; omega)
        rw [H0.out] at h1
        injection h1 with h1
        injection h1 with h1a h1b
        subst h1a; subst h1b
        have e4 : w3.cell? ⟨b, off + 1, none⟩ = some (.slice B m cb) := by simpa using h4
        have HCNT := Lib.hid (getcount_any B m cb body w3 h5 h6)
        have hml : body.length = m := h5.len
        have HML := Lib.hid hml
        have i0 : (0 : Int) < (n : Int) := by have := HN2.out; omega
        clear h2 h3 h4 h5 h6 h7 hc hbl hml
        go_wp2_with fail
        refine HCNT.out.mono ?_
        rintro e1 w4 ⟨rfl, hb4⟩
        have HB4 := Lib.hid (HB3.out.trans (hb4.mono HB3.out.size))
        have HP4 := Lib.hid (HP3.out.below hb4 HP3.out.lt)
        have HK4 := Lib.hid (HK3.out.below hb4 HK3.out.lt)
        rw [← HML.out]
        clear hb4 HCNT e4 d0 d33'
        rw [HE.out]
        go_wp2_with fail
        go_ret2
        exact ⟨by rw [HR.out]; rfl, HB4.out⟩
    · have HSAME : Hid (decide (ps.map (·.1) = [65498, 65502]) = false) := Lib.hid (by simpa using hsame)
      have HR : Hid (orgR key kind f t ps = (0, 4)) := Lib.hid (by rw [orgR, if_neg (by simpa using hk1), if_pos hsame])
      subst hk1
      clear hsame
      go_enter Try.func13, Try.ntmps13
      go_wp2_with (first
        | ((with_reducible refine wpList_isK (o := ⟨some 2, _, _, _, _, _⟩) ?_); refine wpList_boxT (o := ⟨some 2, .box 45 _, _, _, _, _⟩) rfl 45 _ rfl C rfl ?_; intro w1 HP1 HB1; obtain ⟨P, hP⟩ : ∃ R, w.heap.size = R := ⟨_, rfl⟩; rw [hP] at HP1 ⊢; have HPP := Lib.hid hP; clear hP)
        | ((with_reducible refine wpList_isK (o := ⟨some 3, _, _, _, _, _⟩) ?_); refine wpList_boxT (o := ⟨some 3, .box 41 _, _, _, _, _⟩) rfl 41 _ rfl X rfl ?_; intro w2 HK2 HB2'; obtain ⟨Q, hQ⟩ : ∃ R, w1.heap.size = R := ⟨_, rfl⟩; rw [hQ] at HK2 ⊢; have HB2 := Lib.hid (HB1.out.trans (HB2'.out.mono HB1.out.size)); have HP2 := Lib.hid (HP1.out.below HB2'.out HP1.out.lt); have d33 : w2.cell? ⟨P, 33, none⟩ = some (.slice A n c) := (HP2.out.cell 33).trans HC33.out; clear hQ HB2'))
      have hbn := new_below w2 (.cells #[.int .u16 65498, .int .u16 65502] 52)
      have HEQ := Lib.hid (eqf_any A n c w2.heap.size 2 (ps.map (·.1)) [65498, 65502] _ (HTY.out _ (HB2.out.trans (hbn.mono HB2.out.size))) (Blk.new w2 52 [.int .u16 65498, .int .u16 65502]) rfl (by omega))
      have HBN := Lib.hid hbn
      clear hbn
      refine HEQ.out.mono ?_
      rintro e1 w3 ⟨rfl, hb3⟩
      have hb23 : Below w2.heap.size w2 w3 := HBN.out.trans (hb3.mono HBN.out.size)
      have HB3 := Lib.hid (HB2.out.trans (hb23.mono HB2.out.size))
      have HP3 := Lib.hid (HP2.out.below hb23 HP2.out.lt)
      have HK3 := Lib.hid (HK2.out.below hb23 HK2.out.lt)
      have d0 : w3.cell? ⟨P, 0, none⟩ = some (.int .u8 1) := (HP3.out.cell 0).trans HC0.out
      have d33' : w3.cell? ⟨P, 33, none⟩ = some (.slice A n c) := (HP3.out.cell 33).trans HC33.out
      clear hb3 hb23 d33 HEQ
      rw [HSAME.out]
      go_wp2_with fail
      go_ret2
      exact ⟨by rw [HR.out]; rfl, HB3.out⟩
  · have HR : Hid (orgR key kind f t ps = (0, 4)) := Lib.hid (by rw [orgR, if_pos hk1])
    have g1 : (kind == 1) = false := by simpa using hk1
    have g2 : (kind != 1) = true := by simp [g1, bne]
    clear hk1
    go_enter Try.func13, Try.ntmps13
    go_wp2_with (first
      | ((with_reducible refine wpList_isK (o := ⟨some 2, _, _, _, _, _⟩) ?_); refine wpList_boxT (o := ⟨some 2, .box 45 _, _, _, _, _⟩) rfl 45 _ rfl C rfl ?_; intro w1 HP1 HB1; obtain ⟨P, hP⟩ : ∃ R, w.heap.size = R := ⟨_, rfl⟩; rw [hP] at HP1 ⊢; have HPP := Lib.hid hP; clear hP)
      | ((with_reducible refine wpList_isK (o := ⟨some 3, _, _, _, _, _⟩) ?_); refine wpList_boxT (o := ⟨some 3, .box 41 _, _, _, _, _⟩) rfl 41 _ rfl X rfl ?_; intro w2 HK2 HB2'; obtain ⟨Q, hQ⟩ : ∃ R, w1.heap.size = R := ⟨_, rfl⟩; rw [hQ] at HK2 ⊢; have HB2 := Lib.hid (HB1.out.trans (HB2'.out.mono HB1.out.size)); have HP2 := Lib.hid (HP1.out.below HB2'.out HP1.out.lt); have d33 : w2.cell? ⟨P, 33, none⟩ = some (.slice A n c) := (HP2.out.cell 33).trans HC33.out; clear hQ HB2'))
    have hbn := new_below w2 (.cells #[.int .u16 65498, .int .u16 65502] 52)
    have HEQ := Lib.hid (eqf_any A n c w2.heap.size 2 (ps.map (·.1)) [65498, 65502] _ (HTY.out _ (HB2.out.trans (hbn.mono HB2.out.size))) (Blk.new w2 52 [.int .u16 65498, .int .u16 65502]) rfl (by omega))
    have HBN := Lib.hid hbn
    clear hbn
    refine HEQ.out.mono ?_
    rintro e1 w3 ⟨rfl, hb3⟩
    have hb23 : Below w2.heap.size w2 w3 := HBN.out.trans (hb3.mono HBN.out.size)
    have HB3 := Lib.hid (HB2.out.trans (hb23.mono HB2.out.size))
    have HP3 := Lib.hid (HP2.out.below hb23 HP2.out.lt)
    have HK3 := Lib.hid (HK2.out.below hb23 HK2.out.lt)
    have d0 : w3.cell? ⟨P, 0, none⟩ = some (.int .u8 kind) := (HP3.out.cell 0).trans HC0.out
    have d33' : w3.cell? ⟨P, 33, none⟩ = some (.slice A n c) := (HP3.out.cell 33).trans HC33.out
    clear hb3 hb23 d33 HEQ
    go_wp2_with fail
    go_ret2
    exact ⟨by rw [HR.out]; rfl, HB3.out⟩
end Go.Proofs.Ytadpgodmkodgdaa
