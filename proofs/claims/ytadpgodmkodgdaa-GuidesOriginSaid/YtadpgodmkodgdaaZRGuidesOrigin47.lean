/- The law GuidesOrigin: what is relayed tells where it came from; Parameters that are arrays or structs, opened: part by part; The law GuidesOrigin: its parameters opened. -/
import Derived.Test.YtadpgodmkodgdaaZRGuidesOrigin46
import Derived.Test.YtadpgodmkodgdaaBase
import Derived.ChangeSlices
import Derived.ChangeArms
import Derived.SizedLaws
import Derived.ProofKit
import Derived.OpenShut
import Derived.Deep.Slices
namespace Go.Proofs.Ytadpgodmkodgdaa
open Go.RowKit
set_option linter.unusedSimpArgs false
set_option linter.unusedVariables false

theorem exec_buildK {P : Program} {o : Oper} {ev : Operand → Value} {w w' : World} {v : Value} {ty : TypeId} {parts : Array (Nat × Operand)} (ho : o.op = .build ty parts) (h : (Instr.build ty (parts.map fun x => (x.1, ev x.2))).run P w = .ok v w') : (execOp ev o).run P w = .ok (.value v) w' := by
  unfold execOp
  simp only [ho, Sem.run_bind, Sem.run_pure, h, Result.andThen_ok]
theorem run_build_pktT (f t : List Int) (hf : f.length = 16) (ht : t.length = 16) (W : World) :
    (Instr.build 45 #[(0, .int .u8 1), (1, .agg (f.map (Value.int .u8)).toArray), (2, .agg (t.map (Value.int .u8)).toArray)]).run Try.prog W = .ok (.agg (pktC 1 f t (.slice none 0 0)).toArray) W := by
  obtain ⟨a0, a1, a2, a3, a4, a5, a6, a7, a8, a9, a10, a11, a12, a13, a14, a15, rfl⟩ := list16 hf
  obtain ⟨b0, b1, b2, b3, b4, b5, b6, b7, b8, b9, b10, b11, b12, b13, b14, b15, rfl⟩ := list16 ht
  kernel_rfl
theorem size_tag : (Try.prog.info? 23).map (·.size) = some 16 := by kernel_rfl
theorem pktC_from {kind : Int} {f t : List Int} {v : Value} (hf : f.length = 16) {W : World} {R : Nat} (h : Blk W R 45 (pktC kind f t v)) : W.rangeAt R 1 (f.map (Value.int .u8)) := fun j v hv => by
  have hj : j < 16 := by have := (List.getElem?_eq_some_iff.1 hv).1; rwa [List.length_map, hf] at this
  rw [h.cell, pktC, Nat.add_comm 1 j, List.getElem?_cons_succ, List.getElem?_append_left (by rw [List.length_map, hf]; exact hj)]
  exact hv
theorem pktC_to {kind : Int} {f t : List Int} {v : Value} (hf : f.length = 16) (ht : t.length = 16) {W : World} {R : Nat} (h : Blk W R 45 (pktC kind f t v)) : W.rangeAt R 17 (t.map (Value.int .u8)) := fun j v hv => by
  have hj : j < 16 := by have := (List.getElem?_eq_some_iff.1 hv).1; rwa [List.length_map, ht] at this
  rw [h.cell, pktC, show 17 + j = (16 + j) + 1 by omega, List.getElem?_cons_succ, List.getElem?_append_right (by rw [List.length_map, hf]; omega), List.length_map, hf, show 16 + j - 16 = j by omega, List.getElem?_append_left (by rw [List.length_map, ht]; exact hj)]
  exact hv
theorem own_keepP {base : Nat} {w w' : World} {v : Value} {ps : List Piece} {cells : List Value} {R : Nat} {C : List Value} (h : PsOwn base w v ps cells) (hk : Keeps (· = R) w w') (hR : Blk w R 45 C) : PsOwn base w' v ps cells :=
  h.keep hk (fun k cur hk' hh hm => by
    have h2 := hR
    unfold Blk at h2
    subst hm
    rw [h2] at hh
    rcases hh with hh | hh <;> (injection hh with hh; injection hh with _ hh2; revert hh2; decide))
set_option maxRecDepth 100000 in
set_option maxHeartbeats 4000000 in
theorem origin_at (f t key : List Int) (fr : Int) (w : World) (hf : f.length = 16) (ht : t.length = 16) (hfb : isB f) (htb : isB t) (hkl : key.length = 32) (hkb : Bytes key) (hfr : 0 ≤ fr ∧ fr ≤ 4294967295) :
    Calls Try.prog 4 #[.agg (f.map (Value.int .u8) ++ t.map (Value.int .u8)).toArray, .int .u32 fr, .agg (key.map (Value.int .u8)).toArray] w fun e w' => e = .returned (.bool true) ∧ Below w.heap.size w w' := by
  have hbld := run_build_pktT f t hf ht
  have hrel := fun W => relay_any key 1 f t [] fr none 0 0 W ⟨rfl, by omega, fun h => absurd h (by omega)⟩ hf ht hfb htb (by omega) hkl hkb hfr
  have hrel2 := fun (ps : List Piece) G W (h : Ps W (some ⟨G, 0, none⟩) 2 ps) => relay_any key 1 f t ps fr (some ⟨G, 0, none⟩) 2 2 W h hf ht hfb htb (by omega) hkl hkb hfr
  have horg := fun (ps : List Piece) G W (h : Ps W (some ⟨G, 0, none⟩) 2 ps) => origin_any key 1 f t ps (some ⟨G, 0, none⟩) 2 2 W h (by omega) hf ht hfb htb (by omega) hkl hkb
  have horg0 := fun W => origin_any key 1 f t [] none 0 0 W ⟨rfl, by omega, fun h => absurd h (by omega)⟩ (by omega) hf ht hfb htb (by omega) hkl hkb
  have heqf := fun W => tag_eq f f hf hf W
  have heqt := fun W => tag_eq t t ht ht W
  simp only [beq_self_eq_true] at heqf heqt
  obtain ⟨F, hF⟩ : ∃ F, f.map (Value.int .u8) = F := ⟨_, rfl⟩
  obtain ⟨T, hT⟩ : ∃ T, t.map (Value.int .u8) = T := ⟨_, rfl⟩
  obtain ⟨X, hX⟩ : ∃ X, key.map (Value.int .u8) = X := ⟨_, rfl⟩
  obtain ⟨P0, hP0⟩ : ∃ P, pktC 1 f t (.slice none 0 0) = P := ⟨_, rfl⟩
  have hFl : F.length = 16 := by rw [← hF, List.length_map, hf]
  have hTl : T.length = 16 := by rw [← hT, List.length_map, ht]
  have hXl : X.length = 32 := by rw [← hX, List.length_map, hkl]
  have hPl : P0.length = 34 := by rw [← hP0]; exact pktC_length hf ht
  have hP1 : ∀ v ∈ P0, v.oneCell' = true := by rw [← hP0]; exact pktC_one
  have hfrom := fun (R : Nat) (G : Nat) (W : World) (h : Blk W R 45 (pktC 1 f t (.slice (some ⟨G, 0, none⟩) 2 2))) => And.intro (pktC_from hf h) (pktC_to hf ht h)
  have hpc33 : ∀ G : Nat, (pktC 1 f t (.slice (some ⟨G, 0, none⟩) 2 2))[33]? = some (.slice (some ⟨G, 0, none⟩) 2 2) := fun G => by rw [pktC, List.getElem?_cons_succ, List.getElem?_append_right (by simp [hf]), List.getElem?_append_right (by simp [hf, ht])]; simp [hf, ht]
  have hpcl := fun (G : Nat) => pktC_length (kind := 1) (v := .slice (some ⟨G, 0, none⟩) 2 2) hf ht
  rw [hF, hT, hP0] at hbld
  simp only [hP0, hX] at hrel horg0
  simp only [hX] at hrel2 horg
  simp only [hF, hT] at hfrom
  rw [hF] at heqf
  rw [hT] at heqt
  rw [hF, hT, hX]
  have hA0 : (F ++ T).take 16 = F := by rw [List.take_append_of_le_length (by omega), List.take_of_length_le (by omega)]
  have hA1 : (F ++ T).drop 16 = T := by rw [List.drop_append_of_le_length (by omega), List.drop_of_length_le (by omega)]; rfl
  have HBL := Lib.hid hbld
  have HREL := Lib.hid hrel
  have HREL2 := Lib.hid hrel2
  have HORG := Lib.hid horg
  have HORG0 := Lib.hid horg0
  have HEF := Lib.hid heqf
  have HET := Lib.hid heqt
  have HFL := Lib.hid hFl
  have HTL := Lib.hid hTl
  have HPL0 := Lib.hid hPl
  have HP1 := Lib.hid hP1
  have HFROM := Lib.hid hfrom
  have HPCL := Lib.hid hpcl
  have HPC33 := Lib.hid hpc33
  have HFR := Lib.hid hfr
  have HON1 := Lib.hid (onE_one key f t (be fr 4) (be_length 4 fr))
  have HONL := Lib.hid (onL_one key f t (be fr 4))
  have HON0 := Lib.hid (org_none key f t)
  have HOBK := Lib.hid (org_back key f t fr hfr)
  have HCNT := Lib.hid (cnt_be4 hfr)
  have HSF : Hid ((Try.prog.info? 23).map (·.size) = some F.length) := Lib.hid (by rw [hFl]; exact size_tag)
  have HST : Hid ((Try.prog.info? 23).map (·.size) = some T.length) := Lib.hid (by rw [hTl]; exact size_tag)
  have HSX : Hid ((Try.prog.info? 41).map (·.size) = some X.length) := Lib.hid (by rw [hXl]; exact size_sumt)
  have HSP : Hid ((Try.prog.info? 45).map (·.size) = some P0.length) := Lib.hid (by rw [hPl]; exact info_pkt)
  have HU := Lib.hid Try.underlying45
  have HUS := Lib.hid Try.underlying41
  have HUT := Lib.hid Try.underlying23
  have HAL := Lib.hid alloc_pkt
  have HZL : Hid (zPktL.length = 34) := Lib.hid rfl
  have HZZ : Hid (zPkt.length = zPktL.length) := Lib.hid rfl
  have HSZ : Hid ((Try.prog.info? 45).map (·.size) = some zPkt.length) := Lib.hid (by kernel_rfl)
  have HZ1 : Hid (∀ v ∈ zPkt, v.oneCell' = true) := Lib.hid pktC_one
  generalize zPktL = Z at HAL HZL HZZ
  have HRG : Hid (∀ W g, Blk W g 39 (F ++ T) → W.rangeAt g 0 F ∧ W.rangeAt g 16 T) := Lib.hid (fun W g h => ⟨fun j v hv => by
      have hj := (List.getElem?_eq_some_iff.1 hv).1
      rw [Nat.zero_add, h.cell, List.getElem?_append_left hj]; exact hv, fun j v hv => by
      rw [h.cell, List.getElem?_append_right (by omega), hFl, show 16 + j - 16 = j by omega]; exact hv⟩)
  clear hpc33 hbld hrel hrel2 horg horg0 heqf heqt hF hT hX hP0 hFl hTl hXl hPl hP1 hfrom hpcl hA0 hA1 hf ht hfb htb hkl hkb hfr
  go_enter Try.func4, Try.ntmps4
  go_upto_region 1 with (first
    | ((with_reducible refine wpList_isK (o := ⟨some 3, _, _, _, _, _⟩) ?_); refine wpList_boxT (o := ⟨some 3, .box 39 _, _, _, _, _⟩) rfl 39 _ rfl (F ++ T) rfl ?_; intro w1 HA1 HB1; obtain ⟨A, hA⟩ : ∃ R, w.heap.size = R := ⟨_, rfl⟩; rw [hA] at HA1 ⊢; clear hA)
    | ((with_reducible refine wpList_isK (o := ⟨some 5, _, _, _, _, _⟩) ?_); refine wpList_boxT (o := ⟨some 5, .box 41 _, _, _, _, _⟩) rfl 41 _ rfl X rfl ?_; intro w2 HK2 HB2'; obtain ⟨K, hK⟩ : ∃ R, w1.heap.size = R := ⟨_, rfl⟩; rw [hK] at HK2 ⊢; have HB2 := Lib.hid (HB1.out.trans (HB2'.out.mono HB1.out.size)); have HA2 := Lib.hid (HA1.out.below HB2'.out HA1.out.lt); clear hK HB2'))
  rename_i K0 hK0
  refine wp_region_lit ?_
  refine wpList_readK (o := ⟨some 20, _, _, _, _, _⟩) (v := .pointer (some ⟨A, 0, none⟩)) (by rfl) (by kernel_rfl) ?_
  refine wpList_readK (o := ⟨some 21, .load 23 _, _, _, _, _⟩) (v := .agg F.toArray) (by rfl) (exec_loadM rfl A 0 rfl F _ (HRG.out _ _ HA2.out).1 HUT.out rfl HSF.out) ?_
  refine wpList_readK (o := ⟨some 22, _, _, _, _, _⟩) (v := .pointer (some ⟨A, 16, none⟩)) (by rfl) (by kernel_rfl) ?_
  refine wpList_readK (o := ⟨some 23, .load 23 _, _, _, _, _⟩) (v := .agg T.toArray) (by rfl) (exec_loadM rfl A 16 rfl T _ (HRG.out _ _ HA2.out).2 HUT.out rfl HST.out) ?_
  refine wpList_readK (o := ⟨some 24, .build 45 _, _, _, _, _⟩) (v := .agg P0.toArray) (by rfl) (exec_buildK rfl (by simpa [Act.eval, Act.put] using HBL.out _)) ?_
  refine wpList_allocT (o := ⟨some 7, .alloc 45, _, _, _, _⟩) rfl 45 Z (fun W => HAL.out W _ rfl _) ?_; intro w3 HP3 HB3'; obtain ⟨P, hP⟩ : ∃ R, w2.heap.size = R := ⟨_, rfl⟩; rw [hP] at HP3 ⊢; have HPP := Lib.hid (show w.heap.size ≤ P ∧ A < P ∧ K < P by have := HB2.out.size; have := HA2.out.lt; have := HK2.out.lt; omega); have HB3 := Lib.hid (HB2.out.trans (HB3'.out.mono HB2.out.size)); have HA3 := Lib.hid (HA2.out.below HB3'.out HA2.out.lt); have HK3 := Lib.hid (HK2.out.below HB3'.out HK2.out.lt); clear hP HB3'
  refine wpList_over (o := ⟨none, .store 45 (.tmp 7) _, _, _, _, _⟩) rfl 45 _ _ rfl P P0 Z 45 rfl rfl HP3.out (by rw [HPL0.out, HZL.out]) HSP.out HP1.out ?_; intro w4 HP4 hk4; have HB4 := Lib.hid (below_keeps HB3.out hk4.out (Nat.le_refl _) (fun i hi => by rw [hi]; exact HPP.out.1)); have HA4 := Lib.hid (HA3.out.keep hk4.out (fun h => by have := HPP.out; omega)); have HK4 := Lib.hid (HK3.out.keep hk4.out (fun h => by have := HPP.out; omega)); clear hk4
  go_wp2_with (first
    | ((with_reducible refine wpList_isK (o := ⟨some 26, _, _, _, _, _⟩) ?_); refine wpList_loadT (o := ⟨some 26, _, _, _, _, _⟩) rfl 45 _ rfl P rfl 45 P0 _ HP4.out HU.out rfl HSP.out ?_)
    | ((with_reducible refine wpList_isK (o := ⟨some 28, _, _, _, _, _⟩) ?_); refine wpList_loadT (o := ⟨some 28, _, _, _, _, _⟩) rfl 41 _ rfl K rfl 41 X _ HK4.out HUS.out rfl HSX.out ?_))
  refine (HREL.out w4).mono ?_
  clear HA1 HB1 HA2 HK2 HB2 HP3 HB3 HA3 HK3
  by_cases h0 : fr = 0
  · subst h0
    intro e w5 hr5
    have hr5' : e = .returned (.tuple #[.agg zPkt.toArray, .int .i64 1]) ∧ Below w4.heap.size w4 w5 := by
      rcases hr5 with ⟨_, h⟩ | ⟨h, _⟩ | ⟨h, _⟩
      · exact h
      · exact absurd rfl h
      · exact absurd rfl h
    obtain ⟨rfl, hb5⟩ := hr5'
    have HB5 := Lib.hid (HB4.out.trans (hb5.mono HB4.out.size))
    clear hr5 hb5
    go_wp2_with (first
      | ((with_reducible refine wpList_isK (o := ⟨some 8, _, _, _, _, _⟩) ?_); refine wpList_allocT (o := ⟨some 8, .alloc 45, _, _, _, _⟩) rfl 45 Z (fun W => HAL.out W _ rfl _) ?_; intro w6 HR6 HB6'; obtain ⟨R, hR⟩ : ∃ R, w5.heap.size = R := ⟨_, rfl⟩; rw [hR] at HR6 ⊢; have HRR := Lib.hid (show w.heap.size ≤ R by have := HB5.out.size; omega); have HB6 := Lib.hid (HB5.out.trans (HB6'.out.mono HB5.out.size)); clear hR HB6')
      | ((with_reducible refine wpList_isK (o := ⟨none, .store 45 (.tmp 8) (.tmp 30), _, _, _, _⟩) ?_); refine wpList_over (o := ⟨none, .store 45 (.tmp 8) _, _, _, _, _⟩) rfl 45 _ _ rfl R zPkt Z 45 rfl rfl HR6.out HZZ.out HSZ.out HZ1.out ?_; intro w7 HR7 hk7; have HB7 := Lib.hid (below_keeps HB6.out hk7.out (Nat.le_refl _) (fun i hi => by rw [hi]; exact HRR.out)); clear hk7))
    refine (alive_any w7).mono ?_
    rintro e w8 ⟨rfl, hb8⟩
    have HB8 := Lib.hid (HB7.out.trans (hb8.mono HB7.out.size))
    clear hb8
    go_wp2_with fail
    go_ret
    exact ⟨rfl, HB8.out⟩
  · have g0 : (fr == 0) = false := by simpa using h0
    have H0 := Lib.hid h0
    clear h0
    intro e w5 hr5
    have hr5' : OnAns key 1 f t [(65498, be fr 4)] 65502 w4 e w5 := by
      rcases hr5 with ⟨h, _⟩ | ⟨_, h, _⟩ | ⟨_, _, _, h⟩
      · exact absurd h H0.out
      · simp at h
      · exact h
    rcases hr5' with ⟨h, _⟩ | ⟨_, G, cells, N, rfl, hN, ho5, hb5⟩
    · exact absurd HON1.out h
    rw [HONL.out] at hN ho5
    obtain rfl : N = 2 := by rw [← hN]; rfl
    have hok : ∀ p ∈ [((65498 : Int), be fr 4), (65502, covB key 1 f t [(65498, be fr 4)])], okPiece p ∧ p.2.length ≤ 140737488351232 := (fun p hp => by
      simp only [List.mem_cons, List.not_mem_nil, or_false] at hp
      rcases hp with rfl | rfl
      · exact ⟨⟨by simp, by simp, be_bytes 4 fr⟩, by simp [be_length]⟩
      · exact ⟨⟨by simp, by simp, macOf_bytes _ _⟩, by show (covB key 1 f t [(65498, be fr 4)]).length ≤ _; rw [covB, macOf_length]; omega⟩)
    have HFI : Hid (paFind [((65498 : Int), be fr 4), (65502, covB key 1 f t [(65498, be fr 4)])] 65498 = some (be fr 4)) := Lib.hid (by simp [paFind])
    have HOBQ := Lib.hid (HOBK.out H0.out)
    obtain ⟨PS, hPS⟩ : ∃ PS, [((65498 : Int), be fr 4), (65502, covB key 1 f t [(65498, be fr 4)])] = PS := ⟨_, rfl⟩
    have HPL : Hid (PS.length = 2 ∧ PS ≠ []) := Lib.hid (by rw [← hPS]; exact ⟨rfl, by simp⟩)
    rw [hPS] at ho5 hok HFI HOBQ
    have HOK := Lib.hid hok
    have HO5 := Lib.hid ho5
    have HB5 := Lib.hid (HB4.out.trans (hb5.mono HB4.out.size))
    have HA5 := Lib.hid (HA4.out.below hb5 HA4.out.lt)
    have HK5 := Lib.hid (HK4.out.below hb5 HK4.out.lt)
    have HP5 := Lib.hid (HP4.out.below hb5 HP4.out.lt)
    obtain ⟨Q0, hQ0⟩ : ∃ P, pktC 1 f t (.slice (some ⟨G, 0, none⟩) 2 2) = P := ⟨_, rfl⟩
    have HQ := Lib.hid hQ0
    have HQL : Hid (Q0.length = 34) := Lib.hid (by rw [← hQ0]; exact HPCL.out G)
    have HQ1 : Hid (∀ v ∈ Q0, v.oneCell' = true) := Lib.hid (by rw [← hQ0]; exact pktC_one)
    have HSQ : Hid ((Try.prog.info? 45).map (·.size) = some Q0.length) := Lib.hid (by rw [HQL.out]; exact info_pkt)
    rw [hQ0]
    clear hr5 hN ho5 hb5 hPS hok hQ0 HB4 HA4 HK4 HP4
    go_wp2_with (first
      | ((with_reducible refine wpList_isK (o := ⟨some 8, _, _, _, _, _⟩) ?_); refine wpList_allocT (o := ⟨some 8, .alloc 45, _, _, _, _⟩) rfl 45 Z (fun W => HAL.out W _ rfl _) ?_; intro w6 HR6 HB6'; obtain ⟨R, hR⟩ : ∃ R, w5.heap.size = R := ⟨_, rfl⟩; rw [hR] at HR6 ⊢; have HRR := Lib.hid (show w.heap.size ≤ R ∧ A < R ∧ K < R ∧ P < R by have := HB5.out.size; have := HA5.out.lt; have := HK5.out.lt; have := HP5.out.lt; omega); have HB6 := Lib.hid (HB5.out.trans (HB6'.out.mono HB5.out.size)); have HA6 := Lib.hid (HA5.out.below HB6'.out HA5.out.lt); have HK6 := Lib.hid (HK5.out.below HB6'.out HK5.out.lt); have HP6 := Lib.hid (HP5.out.below HB6'.out HP5.out.lt); have HO6 := Lib.hid (HO5.out.below HB6'.out); clear hR HB6')
      | ((with_reducible refine wpList_isK (o := ⟨none, .store 45 (.tmp 8) (.tmp 30), _, _, _, _⟩) ?_); refine wpList_over (o := ⟨none, .store 45 (.tmp 8) _, _, _, _, _⟩) rfl 45 _ _ rfl R Q0 Z 45 rfl rfl HR6.out (by rw [HQL.out, HZL.out]) HSQ.out HQ1.out ?_; intro w7 HR7 hk7; have HB7 := Lib.hid (below_keeps HB6.out hk7.out (Nat.le_refl _) (fun i hi => by rw [hi]; exact HRR.out.1)); have HA7 := Lib.hid (HA6.out.keep hk7.out (fun h => by have := HRR.out; omega)); have HK7 := Lib.hid (HK6.out.keep hk7.out (fun h => by have := HRR.out; omega)); have HP7 := Lib.hid (HP6.out.keep hk7.out (fun h => by have := HRR.out; omega)); have HO7 := Lib.hid (own_keepP HO6.out hk7.out HR6.out); clear hk7)
      | ((with_reducible refine wpList_isK (o := ⟨some 40, _, _, _, _, _⟩) ?_); refine wpList_loadT (o := ⟨some 40, _, _, _, _, _⟩) rfl 45 _ rfl R rfl 45 Q0 _ HR7.out HU.out rfl HSQ.out ?_)
      | ((with_reducible refine wpList_isK (o := ⟨some 41, _, _, _, _, _⟩) ?_); refine wpList_loadT (o := ⟨some 41, _, _, _, _, _⟩) rfl 41 _ rfl K rfl 41 X _ HK7.out HUS.out rfl HSX.out ?_))
    have hps7 := HO7.out.asPs HPL.out.1 (by omega) (fun p hp => (HOK.out p hp).1) (fun p hp => (HOK.out p hp).2)
    have horg := HORG.out PS G w7 hps7
    rw [HQ.out, HOBQ.out] at horg
    refine horg.mono ?_
    clear horg HB5 HA5 HK5 HP5 HO5 HR6 HB6 HA6 HK6 HP6 HO6 hps7
    rintro e w8 ⟨rfl, hb8⟩
    have HB8 := Lib.hid (HB7.out.trans (hb8.mono HB7.out.size))
    have HA8 := Lib.hid (HA7.out.below hb8 HA7.out.lt)
    have HK8 := Lib.hid (HK7.out.below hb8 HK7.out.lt)
    have HP8 := Lib.hid (HP7.out.below hb8 HP7.out.lt)
    have HR8 := Lib.hid (HR7.out.below hb8 HR7.out.lt)
    have HO8 := Lib.hid (HO7.out.below hb8)
    clear hb8 HB7 HA7 HK7 HP7 HR7 HO7
    go_wp2_with (first
      | ((with_reducible refine wpList_isK (o := ⟨some 46, _, _, _, _, _⟩) ?_); refine wpList_loadT (o := ⟨some 46, _, _, _, _, _⟩) rfl 45 _ rfl P rfl 45 P0 _ HP8.out HU.out rfl HSP.out ?_)
      | ((with_reducible refine wpList_isK (o := ⟨some 47, _, _, _, _, _⟩) ?_); refine wpList_loadT (o := ⟨some 47, _, _, _, _, _⟩) rfl 41 _ rfl K rfl 41 X _ HK8.out HUS.out rfl HSX.out ?_))
    refine (HORG0.out w8).mono ?_
    rintro e w9 ⟨rfl, hb9⟩
    rw [HON0.out]
    have HB9 := Lib.hid (HB8.out.trans (hb9.mono HB8.out.size))
    have HA9 := Lib.hid (HA8.out.below hb9 HA8.out.lt)
    have HK9 := Lib.hid (HK8.out.below hb9 HK8.out.lt)
    have HR9 := Lib.hid (HR8.out.below hb9 HR8.out.lt)
    have HO9 := Lib.hid (HO8.out.below hb9)
    clear hb9 HB8 HA8 HK8 HP8 HR8 HO8
    go_wp2_with (first
      | ((with_reducible refine wpList_isK (o := ⟨some 52, _, _, _, _, _⟩) ?_); refine wpList_loadT (o := ⟨some 52, _, _, _, _, _⟩) rfl 45 _ rfl R rfl 45 Q0 _ HR9.out HU.out rfl HSQ.out ?_)
      | ((with_reducible refine wpList_isK (o := ⟨some 54, _, _, _, _, _⟩) ?_); refine wpList_loadT (o := ⟨some 54, _, _, _, _, _⟩) rfl 41 _ rfl K rfl 41 X _ HK9.out HUS.out rfl HSX.out ?_))
    have hps9 := HO9.out.asPs HPL.out.1 (by omega) (fun p hp => (HOK.out p hp).1) (fun p hp => (HOK.out p hp).2)
    have hrel9 := HREL2.out PS G w9 hps9
    rw [HQ.out] at hrel9
    refine hrel9.mono ?_
    clear hrel9 hps9
    intro e w10 hr10
    have hr10' : e = .returned (.tuple #[.agg zPkt.toArray, .int .i64 4]) ∧ Below w9.heap.size w9 w10 := by
      rcases hr10 with ⟨h, _⟩ | ⟨_, _, h⟩ | ⟨_, _, h, _⟩
      · exact absurd h H0.out
      · exact h
      · exact absurd h HPL.out.2
    obtain ⟨rfl, hb10⟩ := hr10'
    have HB10 := Lib.hid (HB9.out.trans (hb10.mono HB9.out.size))
    have HA10 := Lib.hid (HA9.out.below hb10 HA9.out.lt)
    have HR10 := Lib.hid (HR9.out.below hb10 HR9.out.lt)
    have HO10 := Lib.hid (HO9.out.below hb10)
    have HC33 : Hid (Q0[33]? = some (.slice (some ⟨G, 0, none⟩) 2 2)) := Lib.hid (by rw [← HQ.out]; exact HPC33.out G)
    clear hr10 hb10 HB9 HA9 HK9 HR9 HO9
    have hps10 := HO10.out.asPs HPL.out.1 (by omega) (fun p hp => (HOK.out p hp).1) (fun p hp => (HOK.out p hp).2)
    have HPS10 := Lib.hid hps10
    clear hps10
    go_upto_region 8 with (first
      | ((with_reducible refine wpList_isK (o := ⟨some 14, _, _, _, _, _⟩) ?_); refine wpList_allocT (o := ⟨some 14, .alloc 45, _, _, _, _⟩) rfl 45 Z (fun W => HAL.out W _ rfl _) ?_; intro w11 HV11 HB11'; obtain ⟨V, hV⟩ : ∃ R, w10.heap.size = R := ⟨_, rfl⟩; rw [hV] at HV11 ⊢; have HVV := Lib.hid (show w.heap.size ≤ V ∧ A < V ∧ R < V by have := HB10.out.size; have := HA10.out.lt; have := HR10.out.lt; omega); have HB11 := Lib.hid (HB10.out.trans (HB11'.out.mono HB10.out.size)); have HA11 := Lib.hid (HA10.out.below HB11'.out HA10.out.lt); have HR11 := Lib.hid (HR10.out.below HB11'.out HR10.out.lt); have HO11 := Lib.hid (HO10.out.below HB11'.out); clear hV HB11')
      | ((with_reducible refine wpList_isK (o := ⟨none, .store 45 (.tmp 14) (.tmp 56), _, _, _, _⟩) ?_); refine wpList_over (o := ⟨none, .store 45 (.tmp 14) _, _, _, _, _⟩) rfl 45 _ _ rfl V zPkt Z 45 rfl rfl HV11.out HZZ.out HSZ.out HZ1.out ?_; intro w12 HV12 hk12; have HB12 := Lib.hid (below_keeps HB11.out hk12.out (Nat.le_refl _) (fun i hi => by rw [hi]; exact HVV.out.1)); have HA12 := Lib.hid (HA11.out.keep hk12.out (fun h => by have := HVV.out; omega)); have HR12 := Lib.hid (HR11.out.keep hk12.out (fun h => by have := HVV.out; omega)); have HO12 := Lib.hid (own_keepP HO11.out hk12.out HV11.out); clear hk12))
    have c33 : w12.cell? ⟨R, 33, none⟩ = some (.slice (some ⟨G, 0, none⟩) 2 2) := (HR12.out.cell 33).trans HC33.out
    have hfind := find_any (some ⟨G, 0, none⟩) 2 2 65498 PS w12 (HO12.out.asPs HPL.out.1 (by omega) (fun p hp => (HOK.out p hp).1) (fun p hp => (HOK.out p hp).2)) (by omega)
    have HFIND := Lib.hid hfind
    clear hfind HB10 HA10 HR10 HO10 HPS10 HB11 HA11 HR11 HO11
    go_wp2_with fail
    refine HFIND.out.mono ?_
    intro e w13 h13
    rcases h13 with ⟨h, _⟩ | ⟨body, B, h1, rfl, h3, hb13⟩
    · rw [HFI.out] at h; cases h
    rw [HFI.out] at h1
    injection h1 with h1
    subst h1
    have hrb := h3.rd (fun x hx => be_bytes 4 fr x hx) (by rw [be_length]; omega)
    rw [be_length] at hrb ⊢
    have HB13 := Lib.hid (HB12.out.trans (hb13.mono HB12.out.size))
    have HA13 := Lib.hid (HA12.out.below hb13 HA12.out.lt)
    have HR13 := Lib.hid (HR12.out.below hb13 HR12.out.lt)
    have hgc := getcount_any B 4 4 (be fr 4) w13 hrb (Nat.le_refl _)
    rw [HCNT.out.1, HCNT.out.2] at hgc
    have HGC := Lib.hid hgc
    clear h3 hb13 hrb hgc c33 HFIND HB12 HA12 HR12 HO12
    go_wp2_with fail
    refine HGC.out.mono ?_
    rintro e w14 ⟨rfl, hb14⟩
    have HB14 := Lib.hid (HB13.out.trans (hb14.mono HB13.out.size))
    have HA14 := Lib.hid (HA13.out.below hb14 HA13.out.lt)
    have HR14 := Lib.hid (HR13.out.below hb14 HR13.out.lt)
    clear hb14 HB13 HA13 HR13 HGC
    go_wp2_with fail
    refine (alive_any w14).mono ?_
    rintro e w15 ⟨rfl, hb15⟩
    have HB15 := Lib.hid (HB14.out.trans (hb15.mono HB14.out.size))
    have HA15 := Lib.hid (HA14.out.below hb15 HA14.out.lt)
    have HR15 := Lib.hid (HR14.out.below hb15 HR14.out.lt)
    have d0 : w15.cell? ⟨R, 0, none⟩ = some (.int .u8 1) := (HR15.out.cell 0).trans (by rw [← HQ.out]; rfl)
    have d33 : w15.cell? ⟨R, 33, none⟩ = some (.slice (some ⟨G, 0, none⟩) 2 2) := (HR15.out.cell 33).trans HC33.out
    have hrq := HR15.out
    rw [← HQ.out] at hrq
    have HRF := Lib.hid (HFROM.out R G w15 hrq)
    have heqf := HEF.out
    have heqt := HET.out
    clear hb15 HB14 HA14 HR14 hrq
    go_wp2_with (first
      | ((with_reducible refine wpList_isK (o := ⟨some 98, _, _, _, _, _⟩) ?_); refine wpList_readK (o := ⟨some 98, .load 23 _, _, _, _, _⟩) (v := .agg F.toArray) (by rfl) (exec_loadM rfl R 1 rfl F _ HRF.out.1 HUT.out rfl HSF.out) ?_)
      | ((with_reducible refine wpList_isK (o := ⟨some 100, _, _, _, _, _⟩) ?_); refine wpList_readK (o := ⟨some 100, .load 23 _, _, _, _, _⟩) (v := .agg F.toArray) (by rfl) (exec_loadM rfl A 0 rfl F _ (HRG.out _ _ HA15.out).1 HUT.out rfl HSF.out) ?_)
      | ((with_reducible refine wpList_isK (o := ⟨some 105, _, _, _, _, _⟩) ?_); refine wpList_readK (o := ⟨some 105, .load 23 _, _, _, _, _⟩) (v := .agg T.toArray) (by rfl) (exec_loadM rfl R 17 rfl T _ HRF.out.2 HUT.out rfl HST.out) ?_)
      | ((with_reducible refine wpList_isK (o := ⟨some 107, _, _, _, _, _⟩) ?_); refine wpList_readK (o := ⟨some 107, .load 23 _, _, _, _, _⟩) (v := .agg T.toArray) (by rfl) (exec_loadM rfl A 16 rfl T _ (HRG.out _ _ HA15.out).2 HUT.out rfl HST.out) ?_))
    go_ret
    exact ⟨rfl, HB15.out⟩
end Go.Proofs.Ytadpgodmkodgdaa

namespace Go.Proofs.Ytadpgodmkodgdaa
open Go.RowKit Go.ChangeShapes Go.WideShapes
set_option linter.unusedSimpArgs false
set_option linter.unusedVariables false
section
variable {H : Type} {enc : TypeId × Value → H} {P : Program} {w : World} {base : Nat} {spare : Nat → Bool} {held : Bool} {t e : TypeId} {fuel n : Nat} {cs : List Value} {x : DataW H × List MemPlace}

theorem mapM_parts {α β : Type} {f : α → Option β} : ∀ {L : List α} {xs : List β}, L.mapM f = some xs → xs.length = L.length ∧ ∀ (i : Nat) (a : α), L[i]? = some a → ∃ y, xs[i]? = some y ∧ f a = some y
  | [], xs, h => by
    simp at h
    subst h
    exact ⟨rfl, fun i a h => by simp at h⟩
  | a :: L, xs, h => by
    rw [List.mapM_cons] at h
    simp only [bind, Option.bind_eq_some_iff, pure, Option.some.injEq] at h
    obtain ⟨y, hy, ys, hys, rfl⟩ := h
    obtain ⟨hl, hp⟩ := mapM_parts hys
    refine ⟨by simp [hl], fun i b hb => ?_⟩
    cases i with
    | zero => simp at hb; subst hb; exact ⟨y, rfl, hy⟩
    | succ i => exact hp i b (by simpa using hb)

theorem weights_all {P : Program} {e : TypeId} : ∀ {l : List (DataW H)} {i : Nat} {d : DataW H}, l[i]? = some d → ∀ n ∈ d.weights P e, n ∈ DataW.weightsAll P e l
  | [], _, _, h, _, _ => by simp at h
  | d0 :: l, 0, d, h, n, hn => by
    simp at h; subst h
    simp only [DataW.weightsAll, List.mem_append]
    exact .inl hn
  | d0 :: l, i + 1, d, h, n, hn => by
    simp only [DataW.weightsAll, List.mem_append]
    exact .inr (weights_all (by simpa using h) n hn)

/-- All that a datum weighs is within reach. -/
def Light (P : Program) (t : TypeId) (d : DataW H) : Prop := (d.weights P t).all (· ≤ reachBytes) = true

/-- An array, part by part. -/
theorem open_array (hu : P.underlying t = some (.array n e)) (h : DataW.trod enc P w base spare held fuel t cs = some x) :
    cs.length = P.cellsOf t ∧ ∃ m, ∀ i, i < n → ∃ y, DataW.trod enc P w base spare held m e ((cs.drop (i * P.cellsOf e)).take (P.cellsOf e)) = some y ∧ (Light P t x.1 → Light P e y.1) := by
  cases fuel with
  | zero => simp [DataW.trod] at h
  | succ m =>
    rw [DataW.trod_step] at h
    unfold DataW.trodStep at h
    simp only [hu] at h
    split at h
    · rename_i hl
      simp only [Option.map_eq_some_iff] at h
      obtain ⟨ys, hy, rfl⟩ := h
      refine ⟨hl, m, fun i hi => ?_⟩
      obtain ⟨hlen, hp⟩ := mapM_parts hy
      obtain ⟨y, hy1, hy2⟩ := hp i i (by simp [hi])
      refine ⟨y, hy2, fun hL => List.all_eq_true.2 fun k hk => List.all_eq_true.1 hL k ?_⟩
      simp only [DataW.weights, hu]
      exact weights_all (i := i) (by simp [hy1]) k hk
    · cases h

/-- A struct, field by field. -/
theorem open_struct {fs : Array Field} (hu : P.underlying t = some (.struct fs)) (h : DataW.trod enc P w base spare held fuel t cs = some x) :
    cs.length = P.cellsOf t ∧ ∃ m, ∀ (i : Nat) (f : Field), fs.toList[i]? = some f → ∃ y, DataW.trod enc P w base spare held m f.type ((cs.drop f.offset).take (P.cellsOf f.type)) = some y ∧ (Light P t x.1 → Light P f.type y.1) := by
  cases fuel with
  | zero => simp [DataW.trod] at h
  | succ m =>
    rw [DataW.trod_step] at h
    unfold DataW.trodStep at h
    simp only [hu] at h
    split at h
    · rename_i hl
      simp only [Option.map_eq_some_iff] at h
      obtain ⟨ys, hy, rfl⟩ := h
      refine ⟨hl, m, fun i f hi => ?_⟩
      obtain ⟨hlen, hp⟩ := mapM_parts hy
      obtain ⟨y, hy1, hy2⟩ := hp i f hi
      refine ⟨y, hy2, fun hL => List.all_eq_true.2 fun k hk => List.all_eq_true.1 hL k ?_⟩
      simp only [DataW.weights, hu]
      exact DataW.weights_mem_each (j := i) (by simp [hi]) (by simp [hy1]) k hk
    · cases h

/-- A whole number, a bool. -/
theorem cell_int {k : IntKind} (hu : P.underlying t = some (.int k)) (h : DataW.trod enc P w base spare held fuel t cs = some x) : ∃ a, cs = [.int k a] ∧ (Lit.int k a).wf = true := by
  obtain ⟨a, h1, _, h2⟩ := DataW.trod_int hu h
  exact ⟨a, h1, h2⟩

theorem drop_one {α : Type} {l : List α} {i : Nat} {a : α} (h : (l.drop (i * 1)).take 1 = [a]) : l[i]? = some a := by
  have := congrArg (·[0]?) h
  simpa [List.getElem?_take, List.getElem?_drop] using this

/-- An array of whole numbers. -/
theorem open_array_ints {k : IntKind} (hu : P.underlying t = some (.array n e)) (he : P.underlying e = some (.int k)) (hc : P.cellsOf e = 1) (hct : P.cellsOf t = n) (h : DataW.trod enc P w base spare held fuel t cs = some x) :
    ∃ l : List Int, cs = l.map (Value.int k) ∧ l.length = n ∧ ∀ y ∈ l, (Lit.int k y).wf = true := by
  obtain ⟨hl, m, hp⟩ := open_array hu h
  rw [hct] at hl
  have each : ∀ i, i < n → ∃ a, cs[i]? = some (.int k a) ∧ (Lit.int k a).wf = true := by
    intro i hi
    obtain ⟨y, hy, _⟩ := hp i hi
    rw [hc] at hy
    obtain ⟨a, h1, h2⟩ := cell_int he hy
    exact ⟨a, drop_one h1, h2⟩
  refine ⟨cs.map (fun v => match v with | .int _ a => a | _ => 0), ?_, by simp [hl], ?_⟩
  · apply List.ext_getElem?
    intro i
    rcases Nat.lt_or_ge i n with hi | hi
    · obtain ⟨a, h1, _⟩ := each i hi
      simp [h1]
    · rw [List.getElem?_eq_none (by omega), List.getElem?_eq_none (by simp; omega)]
  · intro y hy
    obtain ⟨v, hv, rfl⟩ := List.mem_map.1 hy
    obtain ⟨i, hi, hvi⟩ := List.getElem_of_mem hv
    obtain ⟨a, h1, h2⟩ := each i (by omega)
    rw [List.getElem?_eq_getElem hi] at h1
    injection h1 with h1
    rw [← hvi, h1]
    exact h2

/-- A slice of whole numbers. -/
structure Sl (w : World) (k : IntKind) (A : Option Addr) (n c : Nat) (xs : List Int) : Prop where
  rd : Rd w k A n xs
  le : n ≤ c
  nil : A = none → c = 0
  cap : c ≤ 140737488351232
  plain : 0 < c → ∃ b off, A = some ⟨b, off, none⟩
theorem open_sl {k : IntKind} (ht : P.underlying t = some (.slice e)) (he : P.underlying e = some (.int k)) (hc : P.cellsOf e = 1) (hb : 0 < P.bytesOf e)
    (h : DataW.trod enc P w 0 (fun _ => true) held fuel t cs = some x) (hx : Light P t x.1) : ∃ A n c xs, cs = [.slice A n c] ∧ Sl w k A n c xs := by
  rcases open_ints ht he hc h with ⟨rfl, rfl⟩ | ⟨a, len, cap, zs, rfl, _, hl, hm, hz, rfl, hcell, hw⟩
  · exact ⟨none, 0, 0, [], rfl, ⟨rfl, by omega, by simp, fun h => absurd h (by omega)⟩, by omega, fun _ => rfl, by omega, fun h => absurd h (by omega)⟩
  · simp only [if_true] at hz
    have hy : (cap) * P.bytesOf e ≤ reachBytes := by
      have := List.all_eq_true.1 hx ((((zs.take len).length + (zs.drop len).length)) * P.bytesOf e) (by simp [DataW.weights, ht, lits])
      simp only [List.length_take, List.length_drop, hz, decide_eq_true_eq] at this
      rwa [show min len cap + (cap - len) = cap by omega] at this
    have hy' : cap * P.bytesOf e ≤ 140737488351232 := hy
    obtain ⟨u, c⟩ := rd_of_row (w := w) (k := k) (a := some a) (len := len) (cap := cap) (zs := zs) hb hy' (.inr ⟨a, rfl, hl, hm, hz, hcell, hw⟩)
    refine ⟨some a, len, cap, _, rfl, u, c, fun h => (by cases h), Nat.le_trans (Nat.le_mul_of_pos_right _ hb) hy', fun h0 => ?_⟩
    have h0' := hcell 0 (by omega)
    obtain ⟨b, off, sp⟩ := a
    have hs : sp = none := by simpa [Addr.add] using World.cell?_spot h0'
    exact ⟨b, off, by rw [hs]⟩
/-- A value that is one row of cells. -/
theorem okWide_agg {r : Reach} {b0 : Nat} {v : Value} (hu : (∃ fs, P.underlying t = some (.struct fs)) ∨ ∃ k f, P.underlying t = some (.array k f)) (h : Value.okWide P w r b0 t v) : ∃ cs, v = .agg cs ∧ cs.size = P.cellsOf t := by
  rcases hu with ⟨fs, hu⟩ | ⟨k, f, hu⟩ <;>
  · simp only [Value.okWide, hu] at h
    obtain ⟨cs, h1, h2, _⟩ := h
    exact ⟨cs, h1, h2⟩
end
end Go.Proofs.Ytadpgodmkodgdaa

namespace Go.Proofs.Ytadpgodmkodgdaa
open Go.RowKit Go.ChangeShapes Go.WideShapes
set_option linter.unusedSimpArgs false
set_option linter.unusedVariables false

set_option maxRecDepth 100000 in
theorem guidesOrigin_walk {H : Type} {enc : TypeId × Value → H} {base : Nat} {d0 d2 : DataW H} {p0 p2 : List MemPlace} (v0 : Value) (a1 : Int) (v2 : Value) (w : World)
    (o0 : Value.okWide Try.prog w .any base 39 v0) (k0 : DataW.Trod enc Try.prog w 0 (fun _ => true) true 39 v0 d0 p0) (z0 : (d0.weights Try.prog 39).all (· ≤ reachBytes) = true)
    (w1 : (Lit.int .u32 a1).wf = true)
    (o2 : Value.okWide Try.prog w .any base 41 v2) (k2 : DataW.Trod enc Try.prog w 0 (fun _ => true) true 41 v2 d2 p2) (z2 : (d2.weights Try.prog 41).all (· ≤ reachBytes) = true) :
    Calls Try.prog 4 #[v0, .int .u32 a1, v2] w fun e w' => e = .returned (.bool true) ∧ Below w.heap.size w w' := by
  obtain ⟨cs0, rfl, hs0⟩ := okWide_agg (.inr ⟨_, _, Try.underlying39⟩) o0
  obtain ⟨cs2, rfl, hs2⟩ := okWide_agg (.inr ⟨_, _, Try.underlying41⟩) o2
  obtain ⟨f0, hf0⟩ := k0
  obtain ⟨f2, hf2⟩ := k2
  obtain ⟨hl, m, hp⟩ := open_array Try.underlying39 hf0
  rw [show Try.prog.cellsOf 23 = 16 by kernel_rfl] at hp
  rw [show Try.prog.cellsOf 39 = 32 by kernel_rfl] at hl
  obtain ⟨y0, hy0, _⟩ := hp 0 (by omega)
  obtain ⟨y1, hy1, _⟩ := hp 1 (by omega)
  obtain ⟨f, ef, hfl, hfw⟩ := open_array_ints Try.underlying23 Try.underlying5 (by kernel_rfl) (by kernel_rfl) hy0
  obtain ⟨t, et, htl, htw⟩ := open_array_ints Try.underlying23 Try.underlying5 (by kernel_rfl) (by kernel_rfl) hy1
  obtain ⟨key, ek, hkl, hkw⟩ := open_array_ints Try.underlying41 Try.underlying5 (by kernel_rfl) (by kernel_rfl) hf2
  obtain ⟨cs0⟩ := cs0
  obtain ⟨cs2⟩ := cs2
  simp only [Value.cells] at hl ef et ek
  have e : cs0 = f.map (Value.int .u8) ++ t.map (Value.int .u8) := by
    rw [← ef, ← et, Nat.zero_mul, List.drop_zero, Nat.one_mul, List.take_of_length_le (l := cs0.drop 16) (by rw [List.length_drop]; omega), List.take_append_drop]
  rw [e, ek]
  have hb := fun {l : List Int} (h : ∀ y ∈ l, (Lit.int .u8 y).wf = true) => bytes_of_wf h
  exact origin_at f t key a1 w hfl htl (hb hfw) (hb htw) hkl (hb hkw) (wf_bounds_u32 w1)
end Go.Proofs.Ytadpgodmkodgdaa
