/- The walk over guides.Relay. (Printed by wip/mkgui3.py.). -/
import Derived.Test.YtadpgodmkodgdaaXRGuidesRoom34
import Derived.Test.YtadpgodmkodgdaaXRGuidesRoom35
namespace Go.Proofs.Ytadpgodmkodgdaa
open Go.RowKit
set_option linter.unusedSimpArgs false
set_option linter.unusedVariables false

def RelAns (key : List Int) (kind : Int) (f t : List Int) (ps : List Piece) (fr : Int) (w : World) (e : Ending) (w' : World) : Prop :=
  (fr = 0 ∧ e = .returned (.tuple #[.agg zPkt.toArray, .int .i64 1]) ∧ Below w.heap.size w w') ∨
  (fr ≠ 0 ∧ (kind ≠ 1 ∨ ps ≠ []) ∧ e = .returned (.tuple #[.agg zPkt.toArray, .int .i64 4]) ∧ Below w.heap.size w w') ∨
  (fr ≠ 0 ∧ kind = 1 ∧ ps = [] ∧ OnAns key kind f t [(65498, be fr 4)] 65502 w e w')
theorem ps_one {w : World} {G : Nat} {A : Option Addr} {n : Nat} {body : List Int} {ty : Int} (hb : Blk w G 69 [.int .u16 ty, .slice A n n]) (hr : Rd w .u8 A n body) (ht : 0 ≤ ty ∧ ty ≤ 65535) (hz : A = none → n = 0) : Ps w (some ⟨G, 0, none⟩) 1 [(ty, body)] :=
  ⟨rfl, by omega, fun _ => ⟨G, 0, rfl, hb.lt, fun j hj => by
    obtain rfl : j = 0 := by omega
    exact ⟨ty, body, A, n, n, rfl, ht, hb.cell 0, hb.cell 1, hr, Nat.le_refl _, hz⟩⟩⟩
set_option maxRecDepth 100000 in
set_option maxHeartbeats 4000000 in
theorem relay_any (key : List Int) (kind : Int) (f t : List Int) (ps : List Piece) (fr : Int) (A : Option Addr) (n c : Nat) (w : World) (hps : Ps w A n ps) (hf : f.length = 16) (ht : t.length = 16) (hfb : isB f) (htb : isB t) (hk : 0 ≤ kind ∧ kind ≤ 255)
    (hkl : key.length = 32) (hkb : Bytes key) (hfr : 0 ≤ fr ∧ fr ≤ 4294967295) :
    Calls Try.prog 12 #[.agg (pktC kind f t (.slice A n c)).toArray, .int .u32 fr, .agg (key.map (Value.int .u8)).toArray] w (RelAns key kind f t ps fr w) := by
  obtain ⟨C, hC⟩ : ∃ C, pktC kind f t (.slice A n c) = C := ⟨_, rfl⟩
  have hcl : C.length = 34 := by rw [← hC]; exact pktC_length hf ht
  have hc33 : C[33]? = some (.slice A n c) := by rw [← hC, pktC, List.getElem?_cons_succ, List.getElem?_append_right (by simp [hf]), List.getElem?_append_right (by simp [hf, ht])]; simp [hf, ht]
  have hc0 : C[0]? = some (.int .u8 kind) := by rw [← hC]; rfl
  obtain ⟨X, hX⟩ : ∃ X, key.map (Value.int .u8) = X := ⟨_, rfl⟩
  have hxl : X.length = 32 := by rw [← hX, List.length_map, hkl]
  rw [hC, hX]
  have HC33 := Lib.hid hc33
  have HC0 := Lib.hid hc0
  have HSC : Hid ((Try.prog.info? 45).map (·.size) = some C.length) := Lib.hid (by rw [hcl]; exact info_pkt)
  have HSX : Hid ((Try.prog.info? 41).map (·.size) = some X.length) := Lib.hid (by rw [hxl]; exact size_sumt)
  have HU := Lib.hid Try.underlying45
  have HUS := Lib.hid Try.underlying41
  have HAL := Lib.hid alloc_pkt
  have HZL : Hid (zPktL.length = 34) := Lib.hid rfl
  have HZL2 : Hid (zPkt.length = zPktL.length) := Lib.hid rfl
  have HSZ : Hid ((Try.prog.info? 45).map (·.size) = some zPkt.length) := Lib.hid (by kernel_rfl)
  have HZ1 : Hid (∀ v ∈ zPkt, v.oneCell' = true) := Lib.hid pktC_one
  generalize zPktL = Z at HAL HZL HZL2
  have HNL : Hid (ps.length = n) := Lib.hid hps.len
  have HCC := Lib.hid hC
  have HX := Lib.hid hX
  have HF := Lib.hid hf
  have HTL := Lib.hid ht
  have HFB := Lib.hid hfb
  have HTB := Lib.hid htb
  have HKD := Lib.hid hk
  have HKL := Lib.hid hkl
  have HKB := Lib.hid hkb
  have HFR := Lib.hid hfr
  clear hps hcl hC hf ht hfb htb hkl hkb hX hxl hc33 hc0 hk hfr
  by_cases h0 : fr = 0
  · subst h0
    go_enter Try.func12, Try.ntmps12
    go_wp2_with (first
      | ((with_reducible refine wpList_isK (o := ⟨some 3, _, _, _, _, _⟩) ?_); refine wpList_boxT (o := ⟨some 3, .box 45 _, _, _, _, _⟩) rfl 45 _ rfl C rfl ?_; intro w1 HP1 HB1; obtain ⟨P, hP⟩ : ∃ R, w.heap.size = R := ⟨_, rfl⟩; rw [hP] at HP1 ⊢; have HPP := Lib.hid hP; clear hP)
      | ((with_reducible refine wpList_isK (o := ⟨some 5, _, _, _, _, _⟩) ?_); refine wpList_boxT (o := ⟨some 5, .box 41 _, _, _, _, _⟩) rfl 41 _ rfl X rfl ?_; intro w2 HK2 HB2'; obtain ⟨Q, hQ⟩ : ∃ R, w1.heap.size = R := ⟨_, rfl⟩; rw [hQ] at HK2 ⊢; have HB2 := Lib.hid (HB1.out.trans (HB2'.out.mono HB1.out.size)); have HP2 := Lib.hid (HP1.out.below HB2'.out HP1.out.lt); have HQQ := Lib.hid (show w.heap.size ≤ Q ∧ P < Q by have := HB1.out.size; have := HP1.out.lt; omega); clear hQ HB2')
      | ((with_reducible refine wpList_isK (o := ⟨some 6, _, _, _, _, _⟩) ?_); refine wpList_allocT (o := ⟨some 6, .alloc 45, _, _, _, _⟩) rfl 45 Z (fun W => HAL.out W _ rfl _) ?_; intro w3 HR3 HB3'; obtain ⟨R, hR⟩ : ∃ R, w2.heap.size = R := ⟨_, rfl⟩; rw [hR] at HR3 ⊢; have HRR := Lib.hid (show w.heap.size ≤ R ∧ P < R ∧ Q < R by have := HB2.out.size; have := HP2.out.lt; have := HK2.out.lt; omega); have HB3 := Lib.hid (HB2.out.trans (HB3'.out.mono HB2.out.size)); have HP3 := Lib.hid (HP2.out.below HB3'.out HP2.out.lt); have HK3 := Lib.hid (HK2.out.below HB3'.out HK2.out.lt); have d0 : w3.cell? ⟨P, 0, none⟩ = some (.int .u8 kind) := (HP3.out.cell 0).trans HC0.out; have d33 : w3.cell? ⟨P, 33, none⟩ = some (.slice A n c) := (HP3.out.cell 33).trans HC33.out; clear hR HB3')
      | ((with_reducible refine wpList_isK (o := ⟨none, .store 45 (.tmp 6) (.tmp 11), _, _, _, _⟩) ?_); refine wpList_over (o := ⟨none, .store 45 (.tmp 6) _, _, _, _, _⟩) rfl 45 _ _ rfl R zPkt Z 45 rfl rfl HR3.out HZL2.out HSZ.out HZ1.out ?_; intro wz HRz hkz; have HBz := Lib.hid (below_keeps HB3.out hkz.out (Nat.le_refl _) (fun i hi => by rw [hi]; exact HRR.out.1))))
    refine bodyPost_ret (results_row_tmp rfl _ _ R zPkt _ rfl HRz.out HU.out rfl HSZ.out) rfl ?_
    exact .inl ⟨rfl, rfl, HBz.out⟩
  · have g0 : (fr == 0) = false := by simpa using h0
    have H0 := Lib.hid h0
    by_cases hk1 : kind = 1
    · by_cases hn0 : ps = []
      · have HN0 : Hid (ps = []) := Lib.hid hn0
        have hn : n = 0 := by have := HNL.out; rw [hn0] at this; simpa using this.symm
        subst hn
        subst hk1
        have hpc := fun W => putcount_any fr W HFR.out.1 HFR.out.2
        have HPC := Lib.hid hpc
        clear hn0 h0 hpc
        go_enter Try.func12, Try.ntmps12
        go_wp2_with (first
          | ((with_reducible refine wpList_isK (o := ⟨some 3, _, _, _, _, _⟩) ?_); refine wpList_boxT (o := ⟨some 3, .box 45 _, _, _, _, _⟩) rfl 45 _ rfl C rfl ?_; intro w1 HP1 HB1; obtain ⟨P, hP⟩ : ∃ R, w.heap.size = R := ⟨_, rfl⟩; rw [hP] at HP1 ⊢; have HPP := Lib.hid hP; clear hP)
          | ((with_reducible refine wpList_isK (o := ⟨some 5, _, _, _, _, _⟩) ?_); refine wpList_boxT (o := ⟨some 5, .box 41 _, _, _, _, _⟩) rfl 41 _ rfl X rfl ?_; intro w2 HK2 HB2'; obtain ⟨Q, hQ⟩ : ∃ R, w1.heap.size = R := ⟨_, rfl⟩; rw [hQ] at HK2 ⊢; have HB2 := Lib.hid (HB1.out.trans (HB2'.out.mono HB1.out.size)); have HP2 := Lib.hid (HP1.out.below HB2'.out HP1.out.lt); have HQQ := Lib.hid (show w.heap.size ≤ Q ∧ P < Q by have := HB1.out.size; have := HP1.out.lt; omega); clear hQ HB2')
          | ((with_reducible refine wpList_isK (o := ⟨some 6, _, _, _, _, _⟩) ?_); refine wpList_allocT (o := ⟨some 6, .alloc 45, _, _, _, _⟩) rfl 45 Z (fun W => HAL.out W _ rfl _) ?_; intro w3 HR3 HB3'; obtain ⟨R, hR⟩ : ∃ R, w2.heap.size = R := ⟨_, rfl⟩; rw [hR] at HR3 ⊢; have HRR := Lib.hid (show w.heap.size ≤ R ∧ P < R ∧ Q < R by have := HB2.out.size; have := HP2.out.lt; have := HK2.out.lt; omega); have HB3 := Lib.hid (HB2.out.trans (HB3'.out.mono HB2.out.size)); have HP3 := Lib.hid (HP2.out.below HB3'.out HP2.out.lt); have HK3 := Lib.hid (HK2.out.below HB3'.out HK2.out.lt); have d0 : w3.cell? ⟨P, 0, none⟩ = some (.int .u8 1) := (HP3.out.cell 0).trans HC0.out; have d33 : w3.cell? ⟨P, 33, none⟩ = some (.slice A 0 c) := (HP3.out.cell 33).trans HC33.out; clear hR HB3'))
        refine (HPC.out w3).mono ?_
        rintro e w4 ⟨g, hg, rfl, hkg, hb4⟩
        rw [be_length]
        have HB4 := Lib.hid (HB3.out.trans (hb4.mono HB3.out.size))
        have HP4 := Lib.hid (HP3.out.below hb4 HP3.out.lt)
        have HK4 := Lib.hid (HK3.out.below hb4 HK3.out.lt)
        have HR4 := Lib.hid (HR3.out.below hb4 HR3.out.lt)
        have HG4 := Lib.hid hkg
        have HGW := Lib.hid (show P < g by have := HP3.out.lt; omega)
        clear d0 d33 hg hkg hb4 HB3 HP3 HK3 HR3
        have hb5 := new_below w4 (.cells #[.int .u16 65498, .slice (some ⟨g, 0, none⟩) 4 4] 69)
        obtain ⟨M, hM⟩ : ∃ M, w4.heap.size = M := ⟨_, rfl⟩
        have hm5 := Blk.new w4 69 [.int .u16 65498, .slice (some ⟨g, 0, none⟩) 4 4]
        rw [hM] at hm5
        have f33 := (HP4.out.alloc (.cells #[.int .u16 65498, .slice (some ⟨g, 0, none⟩) 4 4] 69)).free 33
        have c33 : (w4.alloc (.cells #[.int .u16 65498, .slice (some ⟨g, 0, none⟩) 4 4] 69)).cell? ⟨P, 33, none⟩ = some (.slice A 0 c) := ((HP4.out.alloc _).cell 33).trans HC33.out
        have HB5 := Lib.hid (HB4.out.trans (hb5.mono HB4.out.size))
        have HP5 := Lib.hid (HP4.out.below hb5 HP4.out.lt)
        have HK5 := Lib.hid (HK4.out.below hb5 HK4.out.lt)
        have HR5 := Lib.hid (HR4.out.below hb5 HR4.out.lt)
        have HG5 := Lib.hid (HG4.out.below hb5 HG4.out.lt)
        have HM5 := Lib.hid hm5
        have HMM := Lib.hid hM
        have HPM := Lib.hid (show P < M ∧ P < g ∧ R < M by have h1 := HP4.out.lt; have h2 := HR4.out.lt; have h3 := HGW.out; have h4 := HRR.out; omega)
        clear hb5 hm5
        go_upto_region 6 with fail
        clear hM
        have hw6k : Keeps (· = P) (w4.alloc (.cells #[.int .u16 65498, .slice (some ⟨g, 0, none⟩) 4 4] 69)) ((w4.alloc (.cells #[.int .u16 65498, .slice (some ⟨g, 0, none⟩) 4 4] 69)).setCell ⟨P, 33, none⟩ (.slice (some ⟨M, 0, none⟩) 1 1)) := Keeps.set1 _ ⟨P, 33, none⟩ _
        have hp6 : Blk ((w4.alloc (.cells #[.int .u16 65498, .slice (some ⟨g, 0, none⟩) 4 4] 69)).setCell ⟨P, 33, none⟩ (.slice (some ⟨M, 0, none⟩) 1 1)) P 45 (pktC 1 f t (.slice (some ⟨M, 0, none⟩) 1 1)) := by
          have := HP5.out.put 33 (.slice (some ⟨M, 0, none⟩) 1 1)
          rwa [← HCC.out, pktC_set33 HF.out HTL.out] at this
        generalize (w4.alloc (.cells #[.int .u16 65498, .slice (some ⟨g, 0, none⟩) 4 4] 69)).setCell ⟨P, 33, none⟩ (.slice (some ⟨M, 0, none⟩) 1 1) = w6 at hw6k hp6 ⊢
        have HB6 := Lib.hid (below_keeps HB5.out hw6k (Nat.le_refl _) (fun i hi => by rw [hi]; have := HPP.out; omega))
        have HK6 := Lib.hid (HK5.out.keep hw6k (fun h => by have := HQQ.out; omega))
        have HR6 := Lib.hid (HR5.out.keep hw6k (fun h => by have := HRR.out; omega))
        have hps6 := ps_one (HM5.out.keep hw6k (fun h => by have := HPM.out; omega)) (rd_of_blk (HG5.out.keep hw6k (fun h => by have := HPM.out; omega)) (be_bytes 4 fr) (be_length 4 fr) (by omega)) (by omega) (fun h => by cases h)
        have hgu := guide_any key 1 f t _ _ 1 1 w6 hps6 (by omega) HF.out HTL.out HFB.out HTB.out (by omega) HKL.out HKB.out
        obtain ⟨C2, hC2⟩ : ∃ C, pktC 1 f t (.slice (some ⟨M, 0, none⟩) 1 1) = C := ⟨_, rfl⟩
        have HSC2 : Hid ((Try.prog.info? 45).map (·.size) = some C2.length) := Lib.hid (by rw [← hC2, pktC_length HF.out HTL.out]; exact info_pkt)
        rw [hC2] at hp6 hgu
        rw [HX.out] at hgu
        have HP6 := Lib.hid hp6
        have HGU := Lib.hid hgu
        clear hw6k hp6 hps6 hgu hC2 HB5 HP5 HK5 HR5 HG5 HM5 f33 c33 HB4 HP4 HK4 HR4 HG4
        go_wp2_with (first
          | ((with_reducible refine wpList_isK (o := ⟨some 28, _, _, _, _, _⟩) ?_); refine wpList_loadT (o := ⟨some 28, _, _, _, _, _⟩) rfl 45 _ rfl P rfl 45 C2 _ HP6.out HU.out rfl HSC2.out ?_)
          | ((with_reducible refine wpList_isK (o := ⟨some 29, _, _, _, _, _⟩) ?_); refine wpList_loadT (o := ⟨some 29, _, _, _, _, _⟩) rfl 41 _ rfl Q rfl 41 X _ HK6.out HUS.out rfl HSX.out ?_))
        refine HGU.out.mono ?_
        intro e w7 hon
        obtain ⟨V, E, rfl, hvl, hv1, hb7⟩ := OnAns.form hon HF.out HTL.out
        have HON := Lib.hid hon
        have HVL := Lib.hid hvl
        have HV1 := Lib.hid hv1
        have HSV : Hid ((Try.prog.info? 45).map (·.size) = some V.length) := Lib.hid (by rw [hvl]; exact info_pkt)
        have HR7 := Lib.hid (HR6.out.below hb7 HR6.out.lt)
        clear hon hvl hv1 hb7 HGU
        go_wp2_with ((with_reducible refine wpList_isK (o := ⟨none, .store 45 (.tmp 6) (.tmp 31), _, _, _, _⟩) ?_); refine wpList_over (o := ⟨none, .store 45 (.tmp 6) _, _, _, _, _⟩) rfl 45 _ _ rfl R V Z 45 rfl rfl HR7.out (by rw [HVL.out, HZL.out]) HSV.out HV1.out ?_; intro w8 HR8 hk8; have HFIN := Lib.hid (HON.out.step HB6.out hk8.out HRR.out.1 HR7.out))
        refine bodyPost_ret (results_row_tmp rfl _ _ R V _ rfl HR8.out HU.out rfl HSV.out) rfl ?_
        exact .inr (.inr ⟨H0.out, rfl, HN0.out, HFIN.out⟩)
      · have HN0 := Lib.hid hn0
        have hpos : (0 : Int) < (n : Int) := by have := HNL.out; have : ps.length ≠ 0 := fun h => hn0 (List.eq_nil_of_length_eq_zero h); omega
        subst hk1
        clear hn0 h0
        go_enter Try.func12, Try.ntmps12
        go_wp2_with (first
          | ((with_reducible refine wpList_isK (o := ⟨some 3, _, _, _, _, _⟩) ?_); refine wpList_boxT (o := ⟨some 3, .box 45 _, _, _, _, _⟩) rfl 45 _ rfl C rfl ?_; intro w1 HP1 HB1; obtain ⟨P, hP⟩ : ∃ R, w.heap.size = R := ⟨_, rfl⟩; rw [hP] at HP1 ⊢; have HPP := Lib.hid hP; clear hP)
          | ((with_reducible refine wpList_isK (o := ⟨some 5, _, _, _, _, _⟩) ?_); refine wpList_boxT (o := ⟨some 5, .box 41 _, _, _, _, _⟩) rfl 41 _ rfl X rfl ?_; intro w2 HK2 HB2'; obtain ⟨Q, hQ⟩ : ∃ R, w1.heap.size = R := ⟨_, rfl⟩; rw [hQ] at HK2 ⊢; have HB2 := Lib.hid (HB1.out.trans (HB2'.out.mono HB1.out.size)); have HP2 := Lib.hid (HP1.out.below HB2'.out HP1.out.lt); have HQQ := Lib.hid (show w.heap.size ≤ Q ∧ P < Q by have := HB1.out.size; have := HP1.out.lt; omega); clear hQ HB2')
          | ((with_reducible refine wpList_isK (o := ⟨some 6, _, _, _, _, _⟩) ?_); refine wpList_allocT (o := ⟨some 6, .alloc 45, _, _, _, _⟩) rfl 45 Z (fun W => HAL.out W _ rfl _) ?_; intro w3 HR3 HB3'; obtain ⟨R, hR⟩ : ∃ R, w2.heap.size = R := ⟨_, rfl⟩; rw [hR] at HR3 ⊢; have HRR := Lib.hid (show w.heap.size ≤ R ∧ P < R ∧ Q < R by have := HB2.out.size; have := HP2.out.lt; have := HK2.out.lt; omega); have HB3 := Lib.hid (HB2.out.trans (HB3'.out.mono HB2.out.size)); have HP3 := Lib.hid (HP2.out.below HB3'.out HP2.out.lt); have HK3 := Lib.hid (HK2.out.below HB3'.out HK2.out.lt); have d0 : w3.cell? ⟨P, 0, none⟩ = some (.int .u8 1) := (HP3.out.cell 0).trans HC0.out; have d33 : w3.cell? ⟨P, 33, none⟩ = some (.slice A n c) := (HP3.out.cell 33).trans HC33.out; clear hR HB3')
          | ((with_reducible refine wpList_isK (o := ⟨none, .store 45 (.tmp 6) (.tmp 22), _, _, _, _⟩) ?_); refine wpList_over (o := ⟨none, .store 45 (.tmp 6) _, _, _, _, _⟩) rfl 45 _ _ rfl R zPkt Z 45 rfl rfl HR3.out HZL2.out HSZ.out HZ1.out ?_; intro wz HRz hkz; have HBz := Lib.hid (below_keeps HB3.out hkz.out (Nat.le_refl _) (fun i hi => by rw [hi]; exact HRR.out.1))))
        refine bodyPost_ret (results_row_tmp rfl _ _ R zPkt _ rfl HRz.out HU.out rfl HSZ.out) rfl ?_
        exact .inr (.inl ⟨H0.out, .inr HN0.out, rfl, HBz.out⟩)
    · have HK1 := Lib.hid hk1
      have g1 : (kind == 1) = false := by simpa using hk1
      have g2 : (kind != 1) = true := by simp [g1, bne]
      clear hk1 h0
      go_enter Try.func12, Try.ntmps12
      go_wp2_with (first
        | ((with_reducible refine wpList_isK (o := ⟨some 3, _, _, _, _, _⟩) ?_); refine wpList_boxT (o := ⟨some 3, .box 45 _, _, _, _, _⟩) rfl 45 _ rfl C rfl ?_; intro w1 HP1 HB1; obtain ⟨P, hP⟩ : ∃ R, w.heap.size = R := ⟨_, rfl⟩; rw [hP] at HP1 ⊢; have HPP := Lib.hid hP; clear hP)
        | ((with_reducible refine wpList_isK (o := ⟨some 5, _, _, _, _, _⟩) ?_); refine wpList_boxT (o := ⟨some 5, .box 41 _, _, _, _, _⟩) rfl 41 _ rfl X rfl ?_; intro w2 HK2 HB2'; obtain ⟨Q, hQ⟩ : ∃ R, w1.heap.size = R := ⟨_, rfl⟩; rw [hQ] at HK2 ⊢; have HB2 := Lib.hid (HB1.out.trans (HB2'.out.mono HB1.out.size)); have HP2 := Lib.hid (HP1.out.below HB2'.out HP1.out.lt); have HQQ := Lib.hid (show w.heap.size ≤ Q ∧ P < Q by have := HB1.out.size; have := HP1.out.lt; omega); clear hQ HB2')
        | ((with_reducible refine wpList_isK (o := ⟨some 6, _, _, _, _, _⟩) ?_); refine wpList_allocT (o := ⟨some 6, .alloc 45, _, _, _, _⟩) rfl 45 Z (fun W => HAL.out W _ rfl _) ?_; intro w3 HR3 HB3'; obtain ⟨R, hR⟩ : ∃ R, w2.heap.size = R := ⟨_, rfl⟩; rw [hR] at HR3 ⊢; have HRR := Lib.hid (show w.heap.size ≤ R ∧ P < R ∧ Q < R by have := HB2.out.size; have := HP2.out.lt; have := HK2.out.lt; omega); have HB3 := Lib.hid (HB2.out.trans (HB3'.out.mono HB2.out.size)); have HP3 := Lib.hid (HP2.out.below HB3'.out HP2.out.lt); have HK3 := Lib.hid (HK2.out.below HB3'.out HK2.out.lt); have d0 : w3.cell? ⟨P, 0, none⟩ = some (.int .u8 kind) := (HP3.out.cell 0).trans HC0.out; have d33 : w3.cell? ⟨P, 33, none⟩ = some (.slice A n c) := (HP3.out.cell 33).trans HC33.out; clear hR HB3')
        | ((with_reducible refine wpList_isK (o := ⟨none, .store 45 (.tmp 6) (.tmp 22), _, _, _, _⟩) ?_); refine wpList_over (o := ⟨none, .store 45 (.tmp 6) _, _, _, _, _⟩) rfl 45 _ _ rfl R zPkt Z 45 rfl rfl HR3.out HZL2.out HSZ.out HZ1.out ?_; intro wz HRz hkz; have HBz := Lib.hid (below_keeps HB3.out hkz.out (Nat.le_refl _) (fun i hi => by rw [hi]; exact HRR.out.1))))
      refine bodyPost_ret (results_row_tmp rfl _ _ R zPkt _ rfl HRz.out HU.out rfl HSZ.out) rfl ?_
      exact .inr (.inl ⟨H0.out, .inl HK1.out, rfl, HBz.out⟩)
end Go.Proofs.Ytadpgodmkodgdaa
