/- The walk over covers' seal.on, by a sum. (Printed by wip/mkcov2.py.). -/
import Derived.Test.YtadpgodmkodgdaaXRGuidesRoom31
import Derived.Test.YtadpgodmkodgdaaXRGuidesRoom4
namespace Go.Proofs.Ytadpgodmkodgdaa
open Go.RowKit
set_option linter.unusedSimpArgs false
set_option linter.unusedVariables false

/-- What a packet is, with a sum by a key. -/
def onL (key : List Int) (kind : Int) (f t : List Int) (ps : List Piece) (T : Int) : List Piece := withL ps (T, covB key kind f t ps)
def onE (key : List Int) (kind : Int) (f t : List Int) (ps : List Piece) (T : Int) : Int :=
  if (ps.map (·.1)).any (fun u => decide (T ≤ u)) = true then 8 else if pkE kind ps ≠ 0 then pkE kind ps else if withE ps T ≠ 0 then withE ps T else pkE kind (onL key kind f t ps T)
def OnAns (key : List Int) (kind : Int) (f t : List Int) (ps : List Piece) (T : Int) (w : World) (e : Ending) (w' : World) : Prop :=
  (onE key kind f t ps T ≠ 0 ∧ e = .returned (.tuple #[.agg zPkt.toArray, .int .i64 (onE key kind f t ps T)]) ∧ Below w.heap.size w w') ∨
  (onE key kind f t ps T = 0 ∧ ∃ G cells N, e = .returned (.tuple #[.agg (pktC kind f t (.slice (some ⟨G, 0, none⟩) N N)).toArray, .int .i64 0]) ∧ (onL key kind f t ps T).length = N ∧ PsOwn w.heap.size w' (.slice (some ⟨G, 0, none⟩) N N) (onL key kind f t ps T) cells ∧ Below w.heap.size w w')
theorem TyRow.below0 {w w' : World} {A : Option Addr} {n : Nat} {ts : List Int} (h : TyRow w A n ts) (hB : Below w.heap.size w w') : TyRow w' A n ts := h.below hB
theorem Ps.okp {w : World} {A : Option Addr} {n : Nat} {ps : List Piece} (h : Ps w A n ps) : (∀ p ∈ ps, okPiece p) ∧ ∀ p ∈ ps, p.2.length ≤ 140737488351232 := by
  have key : ∀ p ∈ ps, okPiece p ∧ p.2.length ≤ 140737488351232 := fun p hp => by
    obtain ⟨j, hj⟩ := List.mem_iff_getElem?.1 hp
    have hjl : j < n := by rw [← h.len]; exact (List.getElem?_eq_some_iff.1 hj).1
    obtain ⟨b, off, -, -, hc⟩ := h.row (by omega)
    obtain ⟨t, body, B, m, c, h1, h2, -, -, h3, -⟩ := hc j hjl
    rw [hj] at h1
    injection h1 with h1
    subst h1
    exact ⟨⟨h2.1, h2.2, fun x hx => bytes_of_wf h3.wf x hx⟩, by rw [h3.len]; exact h3.big⟩
  exact ⟨fun p hp => (key p hp).1, fun p hp => (key p hp).2⟩
theorem withL_mem {ps : List Piece} {p q : Piece} (h : q ∈ withL ps p) : q ∈ ps ∨ q = p := by
  rw [withL, List.mem_append, List.mem_cons] at h
  rcases h with h | h | h
  · exact .inl (List.mem_filter.1 h).1
  · exact .inr h
  · exact .inl (List.mem_filter.1 h).1
theorem withE_zero {ps : List Piece} {t : Int} (h : withE ps t = 0) : rises 0 ps = true ∧ paFind ps t = none ∧ ps.length < 16 := by
  unfold withE at h
  split at h
  · simp at h
  split at h
  · simp at h
  split at h
  · simp at h
  split at h
  · simp at h
  rename_i a b c d
  exact ⟨by simpa using a, by simpa using c, by omega⟩
def zPktL : List Value := zPkt
theorem alloc_pkt (W : World) (o : Oper) (ho : o.op = .alloc 45) (ev : Operand → Value) : (execOp ev o).run Try.prog W = .ok (.value (.pointer (some ⟨W.heap.size, 0, none⟩))) (W.alloc (.cells zPktL.toArray 45)) := by
  obtain ⟨d, op, t, p, af, g⟩ := o
  simp only at ho
  subst ho
  kernel_rfl
set_option maxRecDepth 100000 in
set_option maxHeartbeats 4000000 in
theorem on_any (KB : Nat) (key : List Int) (kind : Int) (f t : List Int) (ps : List Piece) (T : Int) (A : Option Addr) (n c : Nat) (w : World) (hps : Ps w A n ps) (hn : n < 1099511627776) (hf : f.length = 16) (ht : t.length = 16) (hfb : isB f) (htb : isB t) (hk : 0 ≤ kind ∧ kind ≤ 255)
    (hK : Blk w KB 41 (key.map (Value.int .u8))) (hkl : key.length = 32) (hkb : Bytes key) (hT : 0 ≤ T ∧ T ≤ 65535) :
    Calls Try.prog 35 #[sealV T KB, .agg (pktC kind f t (.slice A n c)).toArray] w (OnAns key kind f t ps T w) := by
  obtain ⟨C, hC⟩ : ∃ C, pktC kind f t (.slice A n c) = C := ⟨_, rfl⟩
  have hcl : C.length = 34 := by rw [← hC]; exact pktC_length hf ht
  have hc33 : C[33]? = some (.slice A n c) := by rw [← hC, pktC, List.getElem?_cons_succ, List.getElem?_append_right (by simp [hf]), List.getElem?_append_right (by simp [hf, ht])]; simp [hf, ht]
  have hbody := fun (W : World) (hb : Below w.heap.size w W) => body_any KB key kind f t ps A n c W (hps.below hb) hf ht hfb htb hk (hK.below hb hK.lt) hkl hkb
  rw [hC] at hbody ⊢
  have HBODY := Lib.hid hbody
  have HSC : Hid ((Try.prog.info? 45).map (·.size) = some C.length) := Lib.hid (by rw [hcl]; exact info_pkt)
  have HU := Lib.hid Try.underlying45
  have HAL := Lib.hid alloc_pkt
  have HZL : Hid (zPktL.length = 34) := Lib.hid rfl
  have HZL2 : Hid (zPkt.length = zPktL.length) := Lib.hid rfl
  have HSZ : Hid ((Try.prog.info? 45).map (·.size) = some zPkt.length) := Lib.hid (by kernel_rfl)
  have HZ1 : Hid (∀ v ∈ zPkt, v.oneCell' = true) := Lib.hid pktC_one
  generalize zPktL = Z at HAL HZL HZL2
  have HPS := Lib.hid hps
  have HN := Lib.hid hn
  have HC33 := Lib.hid hc33
  have HCC := Lib.hid hC
  have HT := Lib.hid hT
  have HF := Lib.hid hf
  have HTL := Lib.hid ht
  have HFB := Lib.hid hfb
  have HTB := Lib.hid htb
  have HKD := Lib.hid hk
  clear hps hn hc33 hbody hcl hK hkl hkb hC hT hf ht hfb htb hk
  unfold sealV
  by_cases hany : (ps.map (·.1)).any (fun u => decide (T ≤ u)) = true
  · have HANY := Lib.hid hany
    have HON : Hid (onE key kind f t ps T = 8) := Lib.hid (by rw [onE, if_pos hany])
    clear hany
    go_enter Try.func35, Try.ntmps35
    go_wp2_with (first
      | ((with_reducible refine wpList_isK (o := ⟨some 2, _, _, _, _, _⟩) ?_); refine wpList_boxT (o := ⟨some 2, .box 87 _, _, _, _, _⟩) rfl 87 _ rfl [.int .u16 T, .func (.func 40) #[] #[.pointer (some ⟨KB, 0, none⟩)]] rfl ?_; intro w1 HS1 HB1; obtain ⟨S, hS⟩ : ∃ R, w.heap.size = R := ⟨_, rfl⟩; rw [hS] at HS1 ⊢; have HSS := Lib.hid hS; clear hS)
      | ((with_reducible refine wpList_isK (o := ⟨some 3, _, _, _, _, _⟩) ?_); refine wpList_boxT (o := ⟨some 3, .box 45 _, _, _, _, _⟩) rfl 45 _ rfl C rfl ?_; intro w2 HP2 HB2'; obtain ⟨P, hP⟩ : ∃ R, w1.heap.size = R := ⟨_, rfl⟩; rw [hP] at HP2 ⊢; have HPP := Lib.hid (show w.heap.size ≤ P ∧ S < P by have := HB1.out.size; have := HS1.out.lt; omega); have HB2 := Lib.hid (HB1.out.trans (HB2'.out.mono HB1.out.size)); have HS2 := Lib.hid (HS1.out.below HB2'.out HS1.out.lt); clear hP HB2')
      | ((with_reducible refine wpList_isK (o := ⟨some 4, _, _, _, _, _⟩) ?_); refine wpList_allocT (o := ⟨some 4, .alloc 45, _, _, _, _⟩) rfl 45 Z (fun W => HAL.out W _ rfl _) ?_; intro w3 HR3 HB3'; obtain ⟨R, hR⟩ : ∃ R, w2.heap.size = R := ⟨_, rfl⟩; rw [hR] at HR3 ⊢; have HRR := Lib.hid (show w.heap.size ≤ R ∧ S < R ∧ P < R by have := HB2.out.size; have := HP2.out.lt; have := HS2.out.lt; omega); have HB3 := Lib.hid (HB2.out.trans (HB3'.out.mono HB2.out.size)); have HS3 := Lib.hid (HS2.out.below HB3'.out HS2.out.lt); have HP3 := Lib.hid (HP2.out.below HB3'.out HP2.out.lt); have d33 : w3.cell? ⟨P, 33, none⟩ = some (.slice A n c) := (HP3.out.cell 33).trans HC33.out; clear hR HB3'))
    refine (hasp_any S KB T A n c _ w3 ((HPS.out.tyRow HN.out).below0 HB3.out) HS3.out).mono ?_
    rintro e1 w4 ⟨rfl, hb4⟩
    rw [HANY.out]
    have HB4 := Lib.hid (HB3.out.trans (hb4.mono HB3.out.size))
    have HS4 := Lib.hid (HS3.out.below hb4 HS3.out.lt)
    have HP4 := Lib.hid (HP3.out.below hb4 HP3.out.lt)
    have HR4 := Lib.hid (HR3.out.below hb4 HR3.out.lt)
    clear hb4 HS1 HB1 HP2 HB2 HS2 HB3 HS3 HP3 HR3 d33
    go_wp2_with ((with_reducible refine wpList_isK (o := ⟨none, .store 45 (.tmp 4) (.tmp 12), _, _, _, _⟩) ?_); refine wpList_over (o := ⟨none, .store 45 (.tmp 4) _, _, _, _, _⟩) rfl 45 _ _ rfl R zPkt Z 45 rfl rfl HR4.out HZL2.out HSZ.out HZ1.out ?_; intro wz HRz hkz; have HBz := Lib.hid (below_keeps HB4.out hkz.out (Nat.le_refl _) (fun i hi => by rw [hi]; exact HRR.out.1)))
    refine bodyPost_ret (results_row_tmp rfl _ _ R zPkt _ rfl HRz.out HU.out rfl HSZ.out) rfl ?_
    exact .inl ⟨by rw [HON.out]; decide, (by first | (rw [HON.out]; rfl) | rw [HON.out]), HBz.out⟩
  · have HANY : Hid ((ps.map (·.1)).any (fun u => decide (T ≤ u)) = false) := Lib.hid (by simpa using hany)
    by_cases hpe : pkE kind ps = 0
    · by_cases hwe : withE ps T = 0
      · obtain ⟨hz1, hz2, hz3⟩ := withE_zero hwe
        have HWL : Hid ((withL ps (T, covB key kind f t ps)).length = ps.length + 1) := Lib.hid (withL_length hz1 hz2)
        have HOKL : Hid (∀ p ∈ withL ps (T, covB key kind f t ps), okPiece p) := Lib.hid (fun p hp => by
          rcases withL_mem hp with h | h
          · exact HPS.out.okp.1 p h
          · subst h; exact ⟨HT.out.1, HT.out.2, macOf_bytes _ _⟩)
        have HLNL : Hid (∀ p ∈ withL ps (T, covB key kind f t ps), p.2.length ≤ 140737488351232) := Lib.hid (fun p hp => by
          rcases withL_mem hp with h | h
          · exact HPS.out.okp.2 p h
          · subst h; show (covB key kind f t ps).length ≤ _; rw [covB, macOf_length]; omega)
        have HE1 := Lib.hid hpe
        have HW := Lib.hid hwe
        clear hz1 hz2 hz3
        by_cases hp2 : pkE kind (withL ps (T, covB key kind f t ps)) = 0
        · have HON : Hid (onE key kind f t ps T = 0) := Lib.hid (by rw [onE, if_neg hany, if_neg (by rw [hpe]; simp), if_neg (by rw [hwe]; simp)]; exact hp2)
          have HPE := Lib.hid hp2
          clear hany hpe hwe hp2
          go_enter Try.func35, Try.ntmps35
          go_wp2_with (first
            | ((with_reducible refine wpList_isK (o := ⟨some 2, _, _, _, _, _⟩) ?_); refine wpList_boxT (o := ⟨some 2, .box 87 _, _, _, _, _⟩) rfl 87 _ rfl [.int .u16 T, .func (.func 40) #[] #[.pointer (some ⟨KB, 0, none⟩)]] rfl ?_; intro w1 HS1 HB1; obtain ⟨S, hS⟩ : ∃ R, w.heap.size = R := ⟨_, rfl⟩; rw [hS] at HS1 ⊢; have HSS := Lib.hid hS; clear hS)
            | ((with_reducible refine wpList_isK (o := ⟨some 3, _, _, _, _, _⟩) ?_); refine wpList_boxT (o := ⟨some 3, .box 45 _, _, _, _, _⟩) rfl 45 _ rfl C rfl ?_; intro w2 HP2 HB2'; obtain ⟨P, hP⟩ : ∃ R, w1.heap.size = R := ⟨_, rfl⟩; rw [hP] at HP2 ⊢; have HPP := Lib.hid (show w.heap.size ≤ P ∧ S < P by have := HB1.out.size; have := HS1.out.lt; omega); have HB2 := Lib.hid (HB1.out.trans (HB2'.out.mono HB1.out.size)); have HS2 := Lib.hid (HS1.out.below HB2'.out HS1.out.lt); clear hP HB2')
            | ((with_reducible refine wpList_isK (o := ⟨some 4, _, _, _, _, _⟩) ?_); refine wpList_allocT (o := ⟨some 4, .alloc 45, _, _, _, _⟩) rfl 45 Z (fun W => HAL.out W _ rfl _) ?_; intro w3 HR3 HB3'; obtain ⟨R, hR⟩ : ∃ R, w2.heap.size = R := ⟨_, rfl⟩; rw [hR] at HR3 ⊢; have HRR := Lib.hid (show w.heap.size ≤ R ∧ S < R ∧ P < R by have := HB2.out.size; have := HP2.out.lt; have := HS2.out.lt; omega); have HB3 := Lib.hid (HB2.out.trans (HB3'.out.mono HB2.out.size)); have HS3 := Lib.hid (HS2.out.below HB3'.out HS2.out.lt); have HP3 := Lib.hid (HP2.out.below HB3'.out HP2.out.lt); have d33 : w3.cell? ⟨P, 33, none⟩ = some (.slice A n c) := (HP3.out.cell 33).trans HC33.out; clear hR HB3'))
          refine (hasp_any S KB T A n c _ w3 ((HPS.out.tyRow HN.out).below0 HB3.out) HS3.out).mono ?_
          rintro e1 w4 ⟨rfl, hb4⟩
          rw [HANY.out]
          have HB4 := Lib.hid (HB3.out.trans (hb4.mono HB3.out.size))
          have HS4 := Lib.hid (HS3.out.below hb4 HS3.out.lt)
          have HP4 := Lib.hid (HP3.out.below hb4 HP3.out.lt)
          have HR4 := Lib.hid (HR3.out.below hb4 HR3.out.lt)
          clear hb4 HS1 HB1 HP2 HB2 HS2 HB3 HS3 HP3 HR3 d33
          have d1 : w4.cell? ⟨S, 1, none⟩ = some (.func (.func 40) #[] #[.pointer (some ⟨KB, 0, none⟩)]) := HS4.out.cell 1
          go_wp2_with ((with_reducible refine wpList_isK (o := ⟨some 16, _, _, _, _, _⟩) ?_); refine wpList_loadT (o := ⟨some 16, _, _, _, _, _⟩) rfl 45 _ rfl P rfl 45 C _ HP4.out HU.out rfl HSC.out ?_)
          refine (HBODY.out w4 HB4.out).mono ?_
          rintro e1 w5 ⟨B5, c5, rfl, hc5, hr5, hz5, hb5⟩
          rw [HE1.out]
          have HB5 := Lib.hid (HB4.out.trans (hb5.mono HB4.out.size))
          have HS5 := Lib.hid (HS4.out.below hb5 HS4.out.lt)
          have HP5 := Lib.hid (HP4.out.below hb5 HP4.out.lt)
          have HR5 := Lib.hid (HR4.out.below hb5 HR4.out.lt)
          have HRB := Lib.hid hr5
          have HC5 := Lib.hid hc5
          have HZ5 := Lib.hid hz5
          clear hc5 hr5 hz5 hb5 d1 HB4 HS4 HP4 HR4
          have d33 : w5.cell? ⟨P, 33, none⟩ = some (.slice A n c) := (HP5.out.cell 33).trans HC33.out
          have d0 : w5.cell? ⟨S, 0, none⟩ = some (.int .u16 T) := HS5.out.cell 0
          have HWITH := Lib.hid (with_any A n c T B5 32 c5 (covB key kind f t ps) ps w5 (HPS.out.below HB5.out) HT.out HRB.out HC5.out HZ5.out)
          go_wp2_with fail
          refine HWITH.out.mono ?_
          clear d33 d0 HWITH HRB HC5 HZ5
          intro e w6 h
          rcases h with ⟨h1, _⟩ | ⟨G, cells, h1, rfl, ho6, hb6⟩
          · exact absurd HW.out h1
          have HB6 := Lib.hid (HB5.out.trans (hb6.mono HB5.out.size))
          have HP6 := Lib.hid (HP5.out.below hb6 HP5.out.lt)
          have HR6 := Lib.hid (HR5.out.below hb6 HR5.out.lt)
          have HGN := Lib.hid (HB5.out.size)
          have f33 := HP6.out.free 33
          have c33 : w6.cell? ⟨P, 33, none⟩ = some (.slice A n c) := (HP6.out.cell 33).trans HC33.out
          obtain ⟨N1, hN1⟩ : ∃ N, ps.length + 1 = N := ⟨_, rfl⟩
          rw [hN1] at ho6 ⊢
          have HN1 := Lib.hid hN1
          have hwl : (withL ps (T, covB key kind f t ps)).length = N1 := by rw [← hN1]; exact HWL.out
          have ho7 := ho6.keep (w' := w6.setCell ⟨P, 33, none⟩ (.slice (some ⟨G, 0, none⟩) N1 N1)) (Keeps.set1 w6 ⟨P, 33, none⟩ _) (fun k cur hk hh hm => by
            have h2 := HP6.out
            simp only at hm
            subst hm
            have hlt := HP5.out.lt
            omega)
          have hps7 := ho7.asPs hwl (by have := HN.out; have := HPS.out.len; omega) HOKL.out HLNL.out
          have HO7 := Lib.hid ho7
          have HPS7 := Lib.hid hps7
          have HP7 : Hid (Blk (w6.setCell ⟨P, 33, none⟩ (.slice (some ⟨G, 0, none⟩) N1 N1)) P 45 (pktC kind f t (.slice (some ⟨G, 0, none⟩) N1 N1))) := Lib.hid (by
            have := HP6.out.put 33 (.slice (some ⟨G, 0, none⟩) N1 N1)
            rwa [← HCC.out, pktC_set33 HF.out HTL.out] at this)
          have HR7 := Lib.hid (HR6.out.far (p := ⟨P, 33, none⟩) (fun h => by have := HRR.out; simp at h; omega) (.slice (some ⟨G, 0, none⟩) N1 N1))
          have HB7 := Lib.hid (HB6.out.setCell (p := ⟨P, 33, none⟩) (by have := HPP.out; simp; omega) (.slice (some ⟨G, 0, none⟩) N1 N1))
          clear ho6 hb6 HB5 HP5 HR5 hN1 hwl ho7 hps7 h1
          go_upto_region 9 with fail
          rename_i K0 hK0
          generalize w6.setCell ⟨P, 33, none⟩ (.slice (some ⟨G, 0, none⟩) N1 N1) = w7 at HR7 HB7 HP7 HO7 HPS7 ⊢
          clear HP6 HR6 HB6 f33 c33
          obtain ⟨C2, hC2⟩ : ∃ C, pktC kind f t (.slice (some ⟨G, 0, none⟩) N1 N1) = C := ⟨_, rfl⟩
          have HCL2 : Hid (C2.length = 34) := Lib.hid (by rw [← hC2]; exact pktC_length HF.out HTL.out)
          have HC21 : Hid (∀ v ∈ C2, v.oneCell' = true) := Lib.hid (by rw [← hC2]; exact pktC_one)
          have HSC2 : Hid ((Try.prog.info? 45).map (·.size) = some C2.length) := Lib.hid (by rw [HCL2.out]; exact info_pkt)
          have HPUT2 := Lib.hid (pkput_any kind f t _ _ N1 N1 w7 HPS7.out HF.out HTL.out HFB.out HTB.out HKD.out)
          rw [hC2] at HP7 HPUT2
          have HCC2 := Lib.hid hC2
          clear hC2
          go_wp2_with ((with_reducible refine wpList_isK (o := ⟨some 40, _, _, _, _, _⟩) ?_); refine wpList_loadT (o := ⟨some 40, _, _, _, _, _⟩) rfl 45 _ rfl P rfl 45 C2 _ HP7.out HU.out rfl HSC2.out ?_)
          refine HPUT2.out.mono ?_
          intro e w8 h
          rcases h with ⟨h1, _⟩ | ⟨g, L, h1, _, rfl, _, _, hb8⟩
          · exact absurd HPE.out h1
          have HB8 := Lib.hid (HB7.out.trans (hb8.mono HB7.out.size))
          have HR8 := Lib.hid (HR7.out.below hb8 HR7.out.lt)
          have HP8 := Lib.hid (HP7.out.below hb8 HP7.out.lt)
          have HO8 := Lib.hid (HO7.out.below hb8)
          clear hb8 HB7 HR7 HP7 HO7 h1 HPUT2
          go_wp2_with (first
            | ((with_reducible refine wpList_isK (o := ⟨some 48, _, _, _, _, _⟩) ?_); refine wpList_loadT (o := ⟨some 48, _, _, _, _, _⟩) rfl 45 _ rfl P rfl 45 C2 _ HP8.out HU.out rfl HSC2.out ?_)
            | ((with_reducible refine wpList_isK (o := ⟨none, .store 45 (.tmp 4) (.tmp 48), _, _, _, _⟩) ?_); refine wpList_over (o := ⟨none, .store 45 (.tmp 4) _, _, _, _, _⟩) rfl 45 _ _ rfl R C2 Z 45 rfl rfl HR8.out (by rw [HCL2.out, HZL.out]) HSC2.out HC21.out ?_; intro wz HRz hkz; have HBz := Lib.hid (below_keeps HB8.out hkz.out (Nat.le_refl _) (fun i hi => by rw [hi]; exact HRR.out.1)); have HOz := Lib.hid (HO8.out.keep hkz.out (fun k cur hk hh hm => by have h2 := HR8.out; unfold Blk at h2; subst hm; rw [h2] at hh; rcases hh with hh | hh <;> (injection hh with hh; injection hh with _ hh2; revert hh2; decide)))))
          refine bodyPost_ret (results_row_tmp rfl _ _ R C2 _ rfl HRz.out HU.out rfl HSC2.out) rfl ?_
          exact .inr ⟨HON.out, G, cells, N1, by (rw [HCC2.out]; rfl), by rw [onL, HWL.out]; exact HN1.out, HOz.out.lower HGN.out, HBz.out⟩
        · have HON : Hid (onE key kind f t ps T = pkE kind (withL ps (T, covB key kind f t ps))) := Lib.hid (by rw [onE, if_neg hany, if_neg (by rw [hpe]; simp), if_neg (by rw [hwe]; simp)]; rfl)
          have HPE := Lib.hid hp2
          clear hany hpe hwe hp2
          go_enter Try.func35, Try.ntmps35
          go_wp2_with (first
            | ((with_reducible refine wpList_isK (o := ⟨some 2, _, _, _, _, _⟩) ?_); refine wpList_boxT (o := ⟨some 2, .box 87 _, _, _, _, _⟩) rfl 87 _ rfl [.int .u16 T, .func (.func 40) #[] #[.pointer (some ⟨KB, 0, none⟩)]] rfl ?_; intro w1 HS1 HB1; obtain ⟨S, hS⟩ : ∃ R, w.heap.size = R := ⟨_, rfl⟩; rw [hS] at HS1 ⊢; have HSS := Lib.hid hS; clear hS)
            | ((with_reducible refine wpList_isK (o := ⟨some 3, _, _, _, _, _⟩) ?_); refine wpList_boxT (o := ⟨some 3, .box 45 _, _, _, _, _⟩) rfl 45 _ rfl C rfl ?_; intro w2 HP2 HB2'; obtain ⟨P, hP⟩ : ∃ R, w1.heap.size = R := ⟨_, rfl⟩; rw [hP] at HP2 ⊢; have HPP := Lib.hid (show w.heap.size ≤ P ∧ S < P by have := HB1.out.size; have := HS1.out.lt; omega); have HB2 := Lib.hid (HB1.out.trans (HB2'.out.mono HB1.out.size)); have HS2 := Lib.hid (HS1.out.below HB2'.out HS1.out.lt); clear hP HB2')
            | ((with_reducible refine wpList_isK (o := ⟨some 4, _, _, _, _, _⟩) ?_); refine wpList_allocT (o := ⟨some 4, .alloc 45, _, _, _, _⟩) rfl 45 Z (fun W => HAL.out W _ rfl _) ?_; intro w3 HR3 HB3'; obtain ⟨R, hR⟩ : ∃ R, w2.heap.size = R := ⟨_, rfl⟩; rw [hR] at HR3 ⊢; have HRR := Lib.hid (show w.heap.size ≤ R ∧ S < R ∧ P < R by have := HB2.out.size; have := HP2.out.lt; have := HS2.out.lt; omega); have HB3 := Lib.hid (HB2.out.trans (HB3'.out.mono HB2.out.size)); have HS3 := Lib.hid (HS2.out.below HB3'.out HS2.out.lt); have HP3 := Lib.hid (HP2.out.below HB3'.out HP2.out.lt); have d33 : w3.cell? ⟨P, 33, none⟩ = some (.slice A n c) := (HP3.out.cell 33).trans HC33.out; clear hR HB3'))
          refine (hasp_any S KB T A n c _ w3 ((HPS.out.tyRow HN.out).below0 HB3.out) HS3.out).mono ?_
          rintro e1 w4 ⟨rfl, hb4⟩
          rw [HANY.out]
          have HB4 := Lib.hid (HB3.out.trans (hb4.mono HB3.out.size))
          have HS4 := Lib.hid (HS3.out.below hb4 HS3.out.lt)
          have HP4 := Lib.hid (HP3.out.below hb4 HP3.out.lt)
          have HR4 := Lib.hid (HR3.out.below hb4 HR3.out.lt)
          clear hb4 HS1 HB1 HP2 HB2 HS2 HB3 HS3 HP3 HR3 d33
          have d1 : w4.cell? ⟨S, 1, none⟩ = some (.func (.func 40) #[] #[.pointer (some ⟨KB, 0, none⟩)]) := HS4.out.cell 1
          go_wp2_with ((with_reducible refine wpList_isK (o := ⟨some 16, _, _, _, _, _⟩) ?_); refine wpList_loadT (o := ⟨some 16, _, _, _, _, _⟩) rfl 45 _ rfl P rfl 45 C _ HP4.out HU.out rfl HSC.out ?_)
          refine (HBODY.out w4 HB4.out).mono ?_
          rintro e1 w5 ⟨B5, c5, rfl, hc5, hr5, hz5, hb5⟩
          rw [HE1.out]
          have HB5 := Lib.hid (HB4.out.trans (hb5.mono HB4.out.size))
          have HS5 := Lib.hid (HS4.out.below hb5 HS4.out.lt)
          have HP5 := Lib.hid (HP4.out.below hb5 HP4.out.lt)
          have HR5 := Lib.hid (HR4.out.below hb5 HR4.out.lt)
          have HRB := Lib.hid hr5
          have HC5 := Lib.hid hc5
          have HZ5 := Lib.hid hz5
          clear hc5 hr5 hz5 hb5 d1 HB4 HS4 HP4 HR4
          have d33 : w5.cell? ⟨P, 33, none⟩ = some (.slice A n c) := (HP5.out.cell 33).trans HC33.out
          have d0 : w5.cell? ⟨S, 0, none⟩ = some (.int .u16 T) := HS5.out.cell 0
          have HWITH := Lib.hid (with_any A n c T B5 32 c5 (covB key kind f t ps) ps w5 (HPS.out.below HB5.out) HT.out HRB.out HC5.out HZ5.out)
          go_wp2_with fail
          refine HWITH.out.mono ?_
          clear d33 d0 HWITH HRB HC5 HZ5
          intro e w6 h
          rcases h with ⟨h1, _⟩ | ⟨G, cells, h1, rfl, ho6, hb6⟩
          · exact absurd HW.out h1
          have HB6 := Lib.hid (HB5.out.trans (hb6.mono HB5.out.size))
          have HP6 := Lib.hid (HP5.out.below hb6 HP5.out.lt)
          have HR6 := Lib.hid (HR5.out.below hb6 HR5.out.lt)
          have HGN := Lib.hid (HB5.out.size)
          have f33 := HP6.out.free 33
          have c33 : w6.cell? ⟨P, 33, none⟩ = some (.slice A n c) := (HP6.out.cell 33).trans HC33.out
          obtain ⟨N1, hN1⟩ : ∃ N, ps.length + 1 = N := ⟨_, rfl⟩
          rw [hN1] at ho6 ⊢
          have HN1 := Lib.hid hN1
          have hwl : (withL ps (T, covB key kind f t ps)).length = N1 := by rw [← hN1]; exact HWL.out
          have ho7 := ho6.keep (w' := w6.setCell ⟨P, 33, none⟩ (.slice (some ⟨G, 0, none⟩) N1 N1)) (Keeps.set1 w6 ⟨P, 33, none⟩ _) (fun k cur hk hh hm => by
            have h2 := HP6.out
            simp only at hm
            subst hm
            have hlt := HP5.out.lt
            omega)
          have hps7 := ho7.asPs hwl (by have := HN.out; have := HPS.out.len; omega) HOKL.out HLNL.out
          have HO7 := Lib.hid ho7
          have HPS7 := Lib.hid hps7
          have HP7 : Hid (Blk (w6.setCell ⟨P, 33, none⟩ (.slice (some ⟨G, 0, none⟩) N1 N1)) P 45 (pktC kind f t (.slice (some ⟨G, 0, none⟩) N1 N1))) := Lib.hid (by
            have := HP6.out.put 33 (.slice (some ⟨G, 0, none⟩) N1 N1)
            rwa [← HCC.out, pktC_set33 HF.out HTL.out] at this)
          have HR7 := Lib.hid (HR6.out.far (p := ⟨P, 33, none⟩) (fun h => by have := HRR.out; simp at h; omega) (.slice (some ⟨G, 0, none⟩) N1 N1))
          have HB7 := Lib.hid (HB6.out.setCell (p := ⟨P, 33, none⟩) (by have := HPP.out; simp; omega) (.slice (some ⟨G, 0, none⟩) N1 N1))
          clear ho6 hb6 HB5 HP5 HR5 hN1 hwl ho7 hps7 h1
          go_upto_region 9 with fail
          rename_i K0 hK0
          generalize w6.setCell ⟨P, 33, none⟩ (.slice (some ⟨G, 0, none⟩) N1 N1) = w7 at HR7 HB7 HP7 HO7 HPS7 ⊢
          clear HP6 HR6 HB6 f33 c33
          obtain ⟨C2, hC2⟩ : ∃ C, pktC kind f t (.slice (some ⟨G, 0, none⟩) N1 N1) = C := ⟨_, rfl⟩
          have HCL2 : Hid (C2.length = 34) := Lib.hid (by rw [← hC2]; exact pktC_length HF.out HTL.out)
          have HC21 : Hid (∀ v ∈ C2, v.oneCell' = true) := Lib.hid (by rw [← hC2]; exact pktC_one)
          have HSC2 : Hid ((Try.prog.info? 45).map (·.size) = some C2.length) := Lib.hid (by rw [HCL2.out]; exact info_pkt)
          have HPUT2 := Lib.hid (pkput_any kind f t _ _ N1 N1 w7 HPS7.out HF.out HTL.out HFB.out HTB.out HKD.out)
          rw [hC2] at HP7 HPUT2
          have HCC2 := Lib.hid hC2
          clear hC2
          go_wp2_with ((with_reducible refine wpList_isK (o := ⟨some 40, _, _, _, _, _⟩) ?_); refine wpList_loadT (o := ⟨some 40, _, _, _, _, _⟩) rfl 45 _ rfl P rfl 45 C2 _ HP7.out HU.out rfl HSC2.out ?_)
          refine HPUT2.out.mono ?_
          intro e w8 h
          rcases h with ⟨h1, rfl, hb8⟩ | ⟨g, L, h1, _⟩
          · obtain ⟨E3, hE3⟩ : ∃ E, pkE kind (withL ps (T, covB key kind f t ps)) = E := ⟨_, rfl⟩
            have HE3 := Lib.hid hE3
            rw [hE3] at h1 ⊢
            have g1 : (E3 == 0) = false := by simpa using h1
            have g2 : (E3 != 0) = true := by simp [g1, bne]
            have HB8 := Lib.hid (HB7.out.trans (hb8.mono HB7.out.size))
            have HR8 := Lib.hid (HR7.out.below hb8 HR7.out.lt)
            clear hb8 HB7 HR7 hE3 h1 HPUT2
            go_wp2_with ((with_reducible refine wpList_isK (o := ⟨none, .store 45 (.tmp 4) (.tmp 46), _, _, _, _⟩) ?_); refine wpList_over (o := ⟨none, .store 45 (.tmp 4) _, _, _, _, _⟩) rfl 45 _ _ rfl R zPkt Z 45 rfl rfl HR8.out HZL2.out HSZ.out HZ1.out ?_; intro wz HRz hkz; have HBz := Lib.hid (below_keeps HB8.out hkz.out (Nat.le_refl _) (fun i hi => by rw [hi]; exact HRR.out.1)))
            refine bodyPost_ret (results_row_tmp rfl _ _ R zPkt _ rfl HRz.out HU.out rfl HSZ.out) rfl ?_
            exact .inl ⟨by rw [HON.out]; exact HPE.out, (by first | (rw [HON.out, HE3.out]; rfl) | rw [HON.out, HE3.out]), HBz.out⟩
          · exact absurd h1 HPE.out
      · have HON : Hid (onE key kind f t ps T = withE ps T) := Lib.hid (by rw [onE, if_neg hany, if_neg (by rw [hpe]; simp), if_pos hwe])
        have HE1 := Lib.hid hpe
        have HW := Lib.hid hwe
        clear hany hpe hwe
        go_enter Try.func35, Try.ntmps35
        go_wp2_with (first
          | ((with_reducible refine wpList_isK (o := ⟨some 2, _, _, _, _, _⟩) ?_); refine wpList_boxT (o := ⟨some 2, .box 87 _, _, _, _, _⟩) rfl 87 _ rfl [.int .u16 T, .func (.func 40) #[] #[.pointer (some ⟨KB, 0, none⟩)]] rfl ?_; intro w1 HS1 HB1; obtain ⟨S, hS⟩ : ∃ R, w.heap.size = R := ⟨_, rfl⟩; rw [hS] at HS1 ⊢; have HSS := Lib.hid hS; clear hS)
          | ((with_reducible refine wpList_isK (o := ⟨some 3, _, _, _, _, _⟩) ?_); refine wpList_boxT (o := ⟨some 3, .box 45 _, _, _, _, _⟩) rfl 45 _ rfl C rfl ?_; intro w2 HP2 HB2'; obtain ⟨P, hP⟩ : ∃ R, w1.heap.size = R := ⟨_, rfl⟩; rw [hP] at HP2 ⊢; have HPP := Lib.hid (show w.heap.size ≤ P ∧ S < P by have := HB1.out.size; have := HS1.out.lt; omega); have HB2 := Lib.hid (HB1.out.trans (HB2'.out.mono HB1.out.size)); have HS2 := Lib.hid (HS1.out.below HB2'.out HS1.out.lt); clear hP HB2')
          | ((with_reducible refine wpList_isK (o := ⟨some 4, _, _, _, _, _⟩) ?_); refine wpList_allocT (o := ⟨some 4, .alloc 45, _, _, _, _⟩) rfl 45 Z (fun W => HAL.out W _ rfl _) ?_; intro w3 HR3 HB3'; obtain ⟨R, hR⟩ : ∃ R, w2.heap.size = R := ⟨_, rfl⟩; rw [hR] at HR3 ⊢; have HRR := Lib.hid (show w.heap.size ≤ R ∧ S < R ∧ P < R by have := HB2.out.size; have := HP2.out.lt; have := HS2.out.lt; omega); have HB3 := Lib.hid (HB2.out.trans (HB3'.out.mono HB2.out.size)); have HS3 := Lib.hid (HS2.out.below HB3'.out HS2.out.lt); have HP3 := Lib.hid (HP2.out.below HB3'.out HP2.out.lt); have d33 : w3.cell? ⟨P, 33, none⟩ = some (.slice A n c) := (HP3.out.cell 33).trans HC33.out; clear hR HB3'))
        refine (hasp_any S KB T A n c _ w3 ((HPS.out.tyRow HN.out).below0 HB3.out) HS3.out).mono ?_
        rintro e1 w4 ⟨rfl, hb4⟩
        rw [HANY.out]
        have HB4 := Lib.hid (HB3.out.trans (hb4.mono HB3.out.size))
        have HS4 := Lib.hid (HS3.out.below hb4 HS3.out.lt)
        have HP4 := Lib.hid (HP3.out.below hb4 HP3.out.lt)
        have HR4 := Lib.hid (HR3.out.below hb4 HR3.out.lt)
        clear hb4 HS1 HB1 HP2 HB2 HS2 HB3 HS3 HP3 HR3 d33
        have d1 : w4.cell? ⟨S, 1, none⟩ = some (.func (.func 40) #[] #[.pointer (some ⟨KB, 0, none⟩)]) := HS4.out.cell 1
        go_wp2_with ((with_reducible refine wpList_isK (o := ⟨some 16, _, _, _, _, _⟩) ?_); refine wpList_loadT (o := ⟨some 16, _, _, _, _, _⟩) rfl 45 _ rfl P rfl 45 C _ HP4.out HU.out rfl HSC.out ?_)
        refine (HBODY.out w4 HB4.out).mono ?_
        rintro e1 w5 ⟨B5, c5, rfl, hc5, hr5, hz5, hb5⟩
        rw [HE1.out]
        have HB5 := Lib.hid (HB4.out.trans (hb5.mono HB4.out.size))
        have HS5 := Lib.hid (HS4.out.below hb5 HS4.out.lt)
        have HP5 := Lib.hid (HP4.out.below hb5 HP4.out.lt)
        have HR5 := Lib.hid (HR4.out.below hb5 HR4.out.lt)
        have HRB := Lib.hid hr5
        have HC5 := Lib.hid hc5
        have HZ5 := Lib.hid hz5
        clear hc5 hr5 hz5 hb5 d1 HB4 HS4 HP4 HR4
        have d33 : w5.cell? ⟨P, 33, none⟩ = some (.slice A n c) := (HP5.out.cell 33).trans HC33.out
        have d0 : w5.cell? ⟨S, 0, none⟩ = some (.int .u16 T) := HS5.out.cell 0
        have HWITH := Lib.hid (with_any A n c T B5 32 c5 (covB key kind f t ps) ps w5 (HPS.out.below HB5.out) HT.out HRB.out HC5.out HZ5.out)
        go_wp2_with fail
        refine HWITH.out.mono ?_
        clear d33 d0 HWITH HRB HC5 HZ5
        intro e w6 h
        rcases h with ⟨h1, rfl, hb6⟩ | ⟨G, cells, h1, _⟩
        · have HB6 := Lib.hid (HB5.out.trans (hb6.mono HB5.out.size))
          have HP6 := Lib.hid (HP5.out.below hb6 HP5.out.lt)
          have HR6 := Lib.hid (HR5.out.below hb6 HR5.out.lt)
          have f33 := HP6.out.free 33
          have c33 : w6.cell? ⟨P, 33, none⟩ = some (.slice A n c) := (HP6.out.cell 33).trans HC33.out
          obtain ⟨E2, hE2⟩ : ∃ E, withE ps T = E := ⟨_, rfl⟩
          have HE2 := Lib.hid hE2
          dsimp only at h1 ⊢
          rw [hE2] at h1 ⊢
          have g1 : (E2 == 0) = false := by simpa using h1
          have g2 : (E2 != 0) = true := by simp [g1, bne]
          clear hb6 HB5 HP5 HR5 hE2 h1
          go_upto_region 8 with fail
          rename_i K0 hK0
          have HR7 := Lib.hid (HR6.out.far (p := ⟨P, 33, none⟩) (fun h => by have := HRR.out; simp at h; omega) (.slice none 0 0))
          have HB7 := Lib.hid (HB6.out.setCell (p := ⟨P, 33, none⟩) (by have := HPP.out; simp; omega) (.slice none 0 0))
          generalize w6.setCell ⟨P, 33, none⟩ (.slice none 0 0) = w7 at HR7 HB7 ⊢
          clear HP6 HR6 HB6 f33 c33
          go_wp2_with ((with_reducible refine wpList_isK (o := ⟨none, .store 45 (.tmp 4) (.tmp 37), _, _, _, _⟩) ?_); refine wpList_over (o := ⟨none, .store 45 (.tmp 4) _, _, _, _, _⟩) rfl 45 _ _ rfl R zPkt Z 45 rfl rfl HR7.out HZL2.out HSZ.out HZ1.out ?_; intro wz HRz hkz; have HBz := Lib.hid (below_keeps HB7.out hkz.out (Nat.le_refl _) (fun i hi => by rw [hi]; exact HRR.out.1)))
          refine bodyPost_ret (results_row_tmp rfl _ _ R zPkt _ rfl HRz.out HU.out rfl HSZ.out) rfl ?_
          exact .inl ⟨by rw [HON.out]; exact HW.out, (by first | (rw [HON.out, HE2.out]; rfl) | rw [HON.out, HE2.out]), HBz.out⟩
        · exact absurd h1 HW.out
    · obtain ⟨E1, hE1⟩ : ∃ E, pkE kind ps = E := ⟨_, rfl⟩
      have HON : Hid (onE key kind f t ps T = E1) := Lib.hid (by rw [onE, if_neg hany, if_pos hpe]; exact hE1)
      have HE1 := Lib.hid hE1
      rw [hE1] at hpe
      have HNE := Lib.hid hpe
      have g1 : (E1 == 0) = false := by simpa using hpe
      have g2 : (E1 != 0) = true := by simp [g1, bne]
      clear hany hpe hE1
      go_enter Try.func35, Try.ntmps35
      go_wp2_with (first
        | ((with_reducible refine wpList_isK (o := ⟨some 2, _, _, _, _, _⟩) ?_); refine wpList_boxT (o := ⟨some 2, .box 87 _, _, _, _, _⟩) rfl 87 _ rfl [.int .u16 T, .func (.func 40) #[] #[.pointer (some ⟨KB, 0, none⟩)]] rfl ?_; intro w1 HS1 HB1; obtain ⟨S, hS⟩ : ∃ R, w.heap.size = R := ⟨_, rfl⟩; rw [hS] at HS1 ⊢; have HSS := Lib.hid hS; clear hS)
        | ((with_reducible refine wpList_isK (o := ⟨some 3, _, _, _, _, _⟩) ?_); refine wpList_boxT (o := ⟨some 3, .box 45 _, _, _, _, _⟩) rfl 45 _ rfl C rfl ?_; intro w2 HP2 HB2'; obtain ⟨P, hP⟩ : ∃ R, w1.heap.size = R := ⟨_, rfl⟩; rw [hP] at HP2 ⊢; have HPP := Lib.hid (show w.heap.size ≤ P ∧ S < P by have := HB1.out.size; have := HS1.out.lt; omega); have HB2 := Lib.hid (HB1.out.trans (HB2'.out.mono HB1.out.size)); have HS2 := Lib.hid (HS1.out.below HB2'.out HS1.out.lt); clear hP HB2')
        | ((with_reducible refine wpList_isK (o := ⟨some 4, _, _, _, _, _⟩) ?_); refine wpList_allocT (o := ⟨some 4, .alloc 45, _, _, _, _⟩) rfl 45 Z (fun W => HAL.out W _ rfl _) ?_; intro w3 HR3 HB3'; obtain ⟨R, hR⟩ : ∃ R, w2.heap.size = R := ⟨_, rfl⟩; rw [hR] at HR3 ⊢; have HRR := Lib.hid (show w.heap.size ≤ R ∧ S < R ∧ P < R by have := HB2.out.size; have := HP2.out.lt; have := HS2.out.lt; omega); have HB3 := Lib.hid (HB2.out.trans (HB3'.out.mono HB2.out.size)); have HS3 := Lib.hid (HS2.out.below HB3'.out HS2.out.lt); have HP3 := Lib.hid (HP2.out.below HB3'.out HP2.out.lt); have d33 : w3.cell? ⟨P, 33, none⟩ = some (.slice A n c) := (HP3.out.cell 33).trans HC33.out; clear hR HB3'))
      refine (hasp_any S KB T A n c _ w3 ((HPS.out.tyRow HN.out).below0 HB3.out) HS3.out).mono ?_
      rintro e1 w4 ⟨rfl, hb4⟩
      rw [HANY.out]
      have HB4 := Lib.hid (HB3.out.trans (hb4.mono HB3.out.size))
      have HS4 := Lib.hid (HS3.out.below hb4 HS3.out.lt)
      have HP4 := Lib.hid (HP3.out.below hb4 HP3.out.lt)
      have HR4 := Lib.hid (HR3.out.below hb4 HR3.out.lt)
      clear hb4 HS1 HB1 HP2 HB2 HS2 HB3 HS3 HP3 HR3 d33
      have d1 : w4.cell? ⟨S, 1, none⟩ = some (.func (.func 40) #[] #[.pointer (some ⟨KB, 0, none⟩)]) := HS4.out.cell 1
      go_wp2_with ((with_reducible refine wpList_isK (o := ⟨some 16, _, _, _, _, _⟩) ?_); refine wpList_loadT (o := ⟨some 16, _, _, _, _, _⟩) rfl 45 _ rfl P rfl 45 C _ HP4.out HU.out rfl HSC.out ?_)
      refine (HBODY.out w4 HB4.out).mono ?_
      rintro e1 w5 ⟨B5, c5, rfl, hc5, hr5, hz5, hb5⟩
      rw [HE1.out]
      have HB5 := Lib.hid (HB4.out.trans (hb5.mono HB4.out.size))
      have HS5 := Lib.hid (HS4.out.below hb5 HS4.out.lt)
      have HP5 := Lib.hid (HP4.out.below hb5 HP4.out.lt)
      have HR5 := Lib.hid (HR4.out.below hb5 HR4.out.lt)
      have HRB := Lib.hid hr5
      have HC5 := Lib.hid hc5
      have HZ5 := Lib.hid hz5
      clear hc5 hr5 hz5 hb5 d1 HB4 HS4 HP4 HR4
      go_wp2_with ((with_reducible refine wpList_isK (o := ⟨none, .store 45 (.tmp 4) (.tmp 22), _, _, _, _⟩) ?_); refine wpList_over (o := ⟨none, .store 45 (.tmp 4) _, _, _, _, _⟩) rfl 45 _ _ rfl R zPkt Z 45 rfl rfl HR5.out HZL2.out HSZ.out HZ1.out ?_; intro wz HRz hkz; have HBz := Lib.hid (below_keeps HB5.out hkz.out (Nat.le_refl _) (fun i hi => by rw [hi]; exact HRR.out.1)))
      refine bodyPost_ret (results_row_tmp rfl _ _ R zPkt _ rfl HRz.out HU.out rfl HSZ.out) rfl ?_
      exact .inl ⟨by rw [HON.out]; exact HNE.out, (by first | (rw [HON.out]; rfl) | rw [HON.out]), HBz.out⟩
end Go.Proofs.Ytadpgodmkodgdaa
