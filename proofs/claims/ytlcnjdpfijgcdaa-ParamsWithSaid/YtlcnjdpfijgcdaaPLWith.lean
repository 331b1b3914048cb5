/- The walk over the law ParamsWith. -/
import Derived.Test.YtlcnjdpfijgcdaaPWSlice
import Derived.Test.YtlcnjdpfijgcdaaPLive
import Derived.Test.YtlcnjdpfijgcdaaKOpenP
namespace Go.Proofs.Ytlcnjdpfijgcdaa
open Go.RowKit Go.ChangeShapes Go.WideShapes
set_option linter.unusedSimpArgs false
set_option linter.unusedVariables false

set_option maxRecDepth 100000 in
set_option maxHeartbeats 8000000 in
theorem pwith_at (A : Option Addr) (n c : Nat) (t : Int) (B : Option Addr) (d : Nat) (body : List Int) (ps : List Piece) (w : World) (hps : Ps w A n ps) (hnc : n ≤ c) (ht : 0 ≤ t ∧ t ≤ 65535) (hrd : Rd w .u8 B body.length body) (hmd : body.length ≤ d) (hz : B = none → d = 0) :
    Calls Try.prog 4 #[.slice A n c, .agg #[.int .u16 t, .slice B body.length d]] w fun e w' => e = .returned (.bool true) ∧ Below w.heap.size w w' := by
  have hok := ps_ok hps
  have hl := hps.len
  have hbl := hrd.big
  have hbb := rd_bytes hrd
  have hB := new_belowB w (.cells #[.int .u16 t, .slice B body.length d] 69)
  have hkp : Blk (w.alloc (.cells #[.int .u16 t, .slice B body.length d] 69)) w.heap.size 69 [.int .u16 t, .slice B body.length d] := Blk.new w 69 [.int .u16 t, .slice B body.length d]
  obtain ⟨w1, hw1⟩ : ∃ w1, w.alloc (.cells #[.int .u16 t, .slice B body.length d] 69) = w1 := ⟨_, rfl⟩
  rw [hw1] at hB hkp
  have hps1 := hps.below hB
  have hrd1 := hrd.below hB
  have hwith := with_any A n c t B body.length d body ps w1 hps1 ht hrd1 hmd hz
  have HW1 := Lib.hid hw1
  have HB := Lib.hid hB
  have HKP := Lib.hid hkp
  have HPS1 := Lib.hid hps1
  have HRD1 := Lib.hid hrd1
  have HZ := Lib.hid hz
  have HL := Lib.hid hl
  have HOK := Lib.hid hok
  have HBB := Lib.hid hbb
  have HWITH := Lib.hid hwith
  have HLEN := Lib.hid (okPiece_len hps)
  obtain ⟨P, hP⟩ : ∃ P, w.heap.size = P := ⟨_, rfl⟩
  rw [hP] at HKP
  have p0 : w1.cell? ⟨P, 0, none⟩ = some (.int .u16 t) := HKP.out.cell 0
  have p1 : w1.cell? ⟨P, 1, none⟩ = some (.slice B body.length d) := HKP.out.cell 1
  have hPl : P < w1.heap.size := HKP.out.lt
  clear hw1 hB hkp hps1 hrd1 hz hl hok hbb hwith hps hrd
  go_enter Try.func4, Try.ntmps4
  go_wp2_with fail
  rw [HW1.out]; clear hP
  go_wp2_with fail
  refine HWITH.out.mono ?_
  rintro e w2 (⟨hne, rfl, hB2⟩ | ⟨G, cells, hE, rfl, hown, hB2⟩)
  · obtain ⟨E, hEE⟩ : ∃ E, withE ps t = E := ⟨_, rfl⟩
    simp only at hne ⊢
    rw [hEE] at hne ⊢
    have hq : (E == 0) = false := beq_eq_false_iff_ne.2 hne
    have HB2 := Lib.hid (HB.out.trans (hB2.mono HB.out.size))
    clear hB2 hne hEE
    go_wp2_with fail
    refine (lives_true w2).mono ?_; rintro e w3 ⟨rfl, hB3⟩
    have HB3 := Lib.hid (HB2.out.trans (hB3.mono HB2.out.size))
    clear hB3
    go_wp2_with fail
    go_ret
    exact ⟨rfl, HB3.out⟩
  · rcases withE_cases ps t with ⟨h, _⟩ | ⟨_, _, _, h⟩ | ⟨_, _, _, _, h⟩ | ⟨hr, ht0, hf, h16, _⟩
    · simp only at hE; omega
    · simp only at hE; omega
    · simp only at hE; omega
    have hn16 : n < 16 := by have := HL.out; omega
    rw [HL.out] at hown ⊢
    have hwl : (withL ps (t, body)).length = n + 1 := by rw [withL_length (p := (t, body)) hr hf, HL.out]
    have hokw : ∀ p ∈ withL ps (t, body), okPiece p := okPiece_with HOK.out ⟨ht.1, ht.2, HBB.out⟩
    have hlenw : ∀ p ∈ withL ps (t, body), p.2.length ≤ 140737488351232 := fun p hp => by
      simp only [withL, List.mem_append, List.mem_cons] at hp
      rcases hp with hp | rfl | hp
      · exact HLEN.out p (List.mem_filter.1 hp).1
      · exact hbl
      · exact HLEN.out p (List.mem_filter.1 hp).1
    have hpsm : Ps w2 (some ⟨G, 0, none⟩) (n + 1) (withL ps (t, body)) := hown.asPs hwl (by omega) hokw hlenw
    have hrm := rises_with (p := (t, body)) hr (show (0 : Int) < (t, body).1 from by simp only; omega) hf
    have hfm := find_with (p := (t, body)) hf
    have hbm := @below_with ps (t, body)
    have hhd := with_head ps (t, body)
    have hmid := with_mid ps (t, body)
    have htl := with_tail (p := (t, body)) hr hf
    have hwe : withE (withL ps (t, body)) t = 8 := by
      rw [withE, if_neg (by rw [hrm]; simp), if_neg ht0]
      simp only at hfm
      rw [hfm]; rfl
    simp only at hfm hbm hhd hmid htl
    obtain ⟨M, hM⟩ : ∃ M, withL ps (t, body) = M := ⟨_, rfl⟩
    rw [hM] at hpsm hfm hbm hhd hmid htl hwe hwl hokw hlenw
    have HB02 := Lib.hid (HB.out.trans (hB2.mono HB.out.size))
    have HB12 := Lib.hid hB2
    have HPSM := Lib.hid hpsm
    have HFM := Lib.hid hfm
    have HBM := Lib.hid hbm
    have HHD := Lib.hid hhd
    have HMID := Lib.hid hmid
    have HTL := Lib.hid htl
    have HWE := Lib.hid hwe
    have HF := Lib.hid hf
    have HWL := Lib.hid hwl
    have c0 : w2.cell? ⟨P, 0, none⟩ = some (.int .u16 t) := (hB2.cell (p := ⟨P, 0, none⟩) hPl).trans p0
    have c1 : w2.cell? ⟨P, 1, none⟩ = some (.slice B body.length d) := (hB2.cell (p := ⟨P, 1, none⟩) hPl).trans p1
    have hfind := find_any (some ⟨G, 0, none⟩) (n + 1) (n + 1) t M w2 hpsm (by omega)
    unfold FindRes at hfind
    rw [HFM.out] at hfind
    have HFIND := Lib.hid hfind
    clear hE hown hwl hokw hlenw hpsm hrm hfm hbm hhd hmid htl hwe hM hB2 hr ht0 hf h16 hfind p0 p1
    go_wp2_with fail
    refine HFIND.out.mono ?_
    rintro e w3 (⟨h, _⟩ | ⟨body3, B3, h, rfl, hrow3, hB3⟩)
    · cases h
    obtain rfl : body = body3 := by injection h
    have hrd3 : Rd w3 .u8 B3 body.length body := hrow3.rd HBB.out hbl
    have hB13 := HB12.out.trans (hB3.mono HB12.out.size)
    have d0 : w3.cell? ⟨P, 0, none⟩ = some (.int .u16 t) := (hB13.cell (p := ⟨P, 0, none⟩) hPl).trans (HKP.out.cell 0)
    have d1 : w3.cell? ⟨P, 1, none⟩ = some (.slice B body.length d) := (hB13.cell (p := ⟨P, 1, none⟩) hPl).trans (HKP.out.cell 1)
    have hfind2 := find_any A n c t ps w3 (HPS1.out.below hB13) (by omega)
    unfold FindRes at hfind2
    rw [HF.out] at hfind2
    have HFIND2 := Lib.hid hfind2
    have HRD3 := Lib.hid hrd3
    have HB13 := Lib.hid hB13
    have HB23 := Lib.hid hB3
    clear h hrow3 hrd3 hB13 hB3 c0 c1 hfind2 HFIND
    go_wp2_with fail
    refine HFIND2.out.mono ?_
    rintro e w4 (⟨_, rfl, hB4⟩ | ⟨_, _, h, _⟩)
    rotate_left
    · cases h
    have hB14 := HB13.out.trans (hB4.mono HB13.out.size)
    have hB24 := HB23.out.trans (hB4.mono HB23.out.size)
    have e0 : w4.cell? ⟨P, 0, none⟩ = some (.int .u16 t) := (hB14.cell (p := ⟨P, 0, none⟩) hPl).trans (HKP.out.cell 0)
    have e1 : w4.cell? ⟨P, 1, none⟩ = some (.slice B body.length d) := (hB14.cell (p := ⟨P, 1, none⟩) hPl).trans (HKP.out.cell 1)
    have hwith2 := with_any (some ⟨G, 0, none⟩) (n + 1) (n + 1) t B body.length d body M w4 (HPSM.out.below hB24) ht (HRD1.out.below hB14) hmd HZ.out
    unfold WithRes at hwith2
    simp only [HWE.out] at hwith2
    have HWITH2 := Lib.hid hwith2
    have HRD4 := Lib.hid (HRD3.out.below hB4)
    have HB14 := Lib.hid hB14
    have HB24 := Lib.hid hB24
    clear hB4 hB14 hB24 d0 d1 hwith2 HFIND2
    go_wp2_with fail
    refine HWITH2.out.mono ?_
    rintro e w5 (⟨_, rfl, hB5⟩ | ⟨_, _, h, _⟩)
    rotate_left
    · cases h
    have hB15 := HB14.out.trans (hB5.mono HB14.out.size)
    have hB25 := HB24.out.trans (hB5.mono HB24.out.size)
    have f0 : w5.cell? ⟨P, 0, none⟩ = some (.int .u16 t) := (hB15.cell (p := ⟨P, 0, none⟩) hPl).trans (HKP.out.cell 0)
    have f1 : w5.cell? ⟨P, 1, none⟩ = some (.slice B body.length d) := (hB15.cell (p := ⟨P, 1, none⟩) hPl).trans (HKP.out.cell 1)
    have hsame := same_any B3 body.length body.length body B body.length d body w5 (HRD4.out.below hB5) (HRD1.out.below hB15)
    rw [decide_eq_true rfl] at hsame
    have HSAME := Lib.hid hsame
    have HB15 := Lib.hid hB15
    have HB25 := Lib.hid hB25
    have hw1a : IntKind.i64.wrap ((n : Int) + 1) = (n : Int) + 1 := IntWalk.i64_in _ (by omega)
    clear hB5 hB15 hB25 e0 e1 hsame HWITH2
    go_wp2_with fail
    refine HSAME.out.mono ?_; rintro e w6 ⟨rfl, hD6⟩
    obtain ⟨q6, rfl⟩ := hD6
    have hB6 : Below w5.heap.size w5 (w5.drewN q6) := below_drewN (Below.refl _ _) q6
    have hB16 := HB15.out.trans (hB6.mono HB15.out.size)
    have hB26 := HB25.out.trans (hB6.mono HB25.out.size)
    obtain ⟨W6, hW6⟩ : ∃ W6, w5.drewN q6 = W6 := ⟨_, rfl⟩
    rw [hW6] at hB16 hB26 ⊢
    have g0 : W6.cell? ⟨P, 0, none⟩ = some (.int .u16 t) := (hB16.cell (p := ⟨P, 0, none⟩) hPl).trans (HKP.out.cell 0)
    have g1 : W6.cell? ⟨P, 1, none⟩ = some (.slice B body.length d) := (hB16.cell (p := ⟨P, 1, none⟩) hPl).trans (HKP.out.cell 1)
    have hbel := below_any (some ⟨G, 0, none⟩) (n + 1) (n + 1) t M W6 (HPSM.out.below hB26) (by omega)
    rw [HBM.out] at hbel
    have HBEL := Lib.hid hbel
    have HB16 := Lib.hid hB16
    have HB26 := Lib.hid hB26
    clear hB6 hB16 hB26 hW6 f0 f1 hbel HSAME
    go_wp2_with fail
    refine HBEL.out.mono ?_; rintro e w7 ⟨G7, cells7, rfl, hown7, hB7⟩
    have hokb : ∀ p ∈ paBelow ps t, okPiece p := okPiece_below HOK.out
    have hlenb : ∀ p ∈ paBelow ps t, p.2.length ≤ 140737488351232 := fun p hp => HLEN.out p (List.mem_filter.1 hp).1
    have hkn : (paBelow ps t).length ≤ n := by have := below_le ps t; have := HL.out; omega
    have hB17 := HB16.out.trans (hB7.mono HB16.out.size)
    have hB27 := HB26.out.trans (hB7.mono HB26.out.size)
    have hbel2 : ∀ W, Below w7.heap.size w7 W → Calls Try.prog 27 #[.slice A n c, .int .u16 t] W fun e w' => ∃ G cells, e = .returned (.slice (some ⟨G, 0, none⟩) (paBelow ps t).length (paBelow ps t).length) ∧ PsOwn W.heap.size w' (.slice (some ⟨G, 0, none⟩) (paBelow ps t).length (paBelow ps t).length) (paBelow ps t) cells ∧ Below W.heap.size W w' := fun W hW => below_any A n c t ps W (HPS1.out.below (hB17.trans (hW.mono hB17.size))) (by omega)
    have hhd := HHD.out
    have hmid := HMID.out
    have htl := HTL.out
    generalize paBelow ps t = lo at hown7 hokb hlenb hkn hbel2 hhd hmid htl HBM
    obtain ⟨k, hk⟩ : ∃ k, lo.length = k := ⟨_, rfl⟩
    rw [hk] at hown7 hkn hbel2 hhd hmid htl ⊢
    have hps7 : Ps w7 (some ⟨G7, 0, none⟩) k lo := hown7.asPs hk (by omega) hokb hlenb
    have hasb : ∀ (W : World) (base G : Nat) (cells : List Value), PsOwn base W (.slice (some ⟨G, 0, none⟩) k k) lo cells → Ps W (some ⟨G, 0, none⟩) k lo := fun W base G cells h => h.asPs hk (by omega) hokb hlenb
    have hpm7 : Ps w7 (some ⟨G, 0, none⟩) (n + 1) M := HPSM.out.below hB27
    have hsl1 : ∀ W : World, (Instr.slice 66 (.slice (some ⟨G, 0, none⟩) (n + 1) (n + 1)) none (some (.int .i64 (k : Int))) none).run Try.prog W = .ok (.slice (some ⟨G, 0, none⟩) k (n + 1)) W := fun W => slice_highP W (some ⟨G, 0, none⟩) (n + 1) (n + 1) k (by omega)
    obtain ⟨A9, hsl2, hpd2⟩ := hpm7.dropP (Nat.le_refl _) (k + 1) (by omega)
    obtain ⟨A10, hsl3, hpd3⟩ := (HPS1.out.below hB17).dropP hnc k hkn
    have hpt1 := hpm7.takeP k (by omega)
    rw [hhd] at hpt1
    rw [htl, show n + 1 - (k + 1) = n - k by omega] at hpd2
    have hsl2' : ∀ W : World, (Instr.slice 66 (.slice (some ⟨G, 0, none⟩) (n + 1) (n + 1)) (some (.int .i64 ((k : Int) + 1))) none none).run Try.prog W = .ok (.slice A9 (n - k) (n - k)) W := fun W => by
      have := hsl2 W
      rwa [show ((k + 1 : Nat) : Int) = (k : Int) + 1 by omega, show n + 1 - (k + 1) = n - k by omega] at this
    obtain ⟨bm, om, em, hbm, hcm⟩ := hpm7.row (by omega)
    simp only [Option.some.injEq, Addr.mk.injEq, and_true] at em
    obtain ⟨rfl, rfl⟩ := em
    obtain ⟨tk, bk, _, _, _, hk1, _, hk3, _⟩ := hcm k (by omega)
    rw [hmid] at hk1
    injection hk1 with hk1
    injection hk1 with hk1 hk2
    subst hk1
    have hGk : w7.cell? ⟨G, k * 2, none⟩ = some (.int .u16 t) := by simpa using hk3
    have h0 : w7.cell? ⟨P, 0, none⟩ = some (.int .u16 t) := (hB17.cell (p := ⟨P, 0, none⟩) hPl).trans (HKP.out.cell 0)
    have hP7 : P < w7.heap.size := Nat.lt_of_lt_of_le hPl hB17.size
    have k0 : (0 : Int) ≤ (k : Int) := by omega
    have k1 : (k : Int) < (n : Int) + 1 := by omega
    have hwk : IntKind.i64.wrap ((k : Int) + 1) = (k : Int) + 1 := IntWalk.i64_in _ (by omega)
    have HB17 := Lib.hid hB17
    have HPS7 := Lib.hid hps7
    have HBEL2 := Lib.hid hbel2
    have HASB := Lib.hid hasb
    have HSL1 := Lib.hid hsl1
    have HSL2 := Lib.hid hsl2'
    have HSL3 := Lib.hid hsl3
    have HPD2 := Lib.hid hpd2
    have HPD3 := Lib.hid hpd3
    have HPT1 := Lib.hid hpt1
    have HB07 : Hid (Below w.heap.size w w7) := Lib.hid (HB.out.trans (hB17.mono HB.out.size))
    clear hown7 hokb hlenb hB7 hB17 hB27 hbel2 hhd hmid htl hps7 hasb hpm7 hsl1 hsl2 hsl3 hpd2 hpd3 hpt1 hsl2' hcm hk3 hk2 HBEL HBM HHD HMID HTL hk g0 g1
    go_wp2_with fail
    refine wp_region_noPanic ?_
    refine wp_region_held_drew (S := (fun w' => w'.cell? ⟨P, 0, none⟩ = some (.int .u16 t) ∧ w'.cell? ⟨G, k * 2, none⟩ = some (.int .u16 t))) (by kernel_rfl) ?_ (fun hHeld => ?_)
    · ((try dsimp only); refine ⟨?_, ?_⟩ <;> (first | assumption | (go_keep; done)))
    refine wpAnyH_take (i := 0) (oi := ⟨some 76, _, _, _, _, _⟩) (v := ?_) rfl (by kernel_rfl) (by kernel_rfl) (by kernel_rfl) (fun _ _ _ h => False.elim h) (Or.inl ⟨by rfl, ?_⟩) (by assumption) ?_
    rotate_left
    · intro w hSw
      (try dsimp only at hSw)
      go_simp
      all_goals with_reducible rfl
    (try simp only [Act.put, List.setIfInBounds_toArray, List.set_cons_zero, List.set_cons_succ])
    refine wpAnyH_take (i := 1) (oi := ⟨some 77, _, _, _, _, _⟩) (v := ?_) rfl (by kernel_rfl) (by kernel_rfl) (by kernel_rfl) (fun _ _ _ h => False.elim h) (Or.inl ⟨by rfl, ?_⟩) (by assumption) ?_
    rotate_left
    · intro w hSw
      (try dsimp only at hSw)
      go_simp
      all_goals with_reducible rfl
    (try simp only [Act.put, List.setIfInBounds_toArray, List.set_cons_zero, List.set_cons_succ])
    refine wpAnyH_take (i := 2) (oi := ⟨some 78, _, _, _, _, _⟩) (v := ?_) rfl (by kernel_rfl) (by kernel_rfl) (by kernel_rfl) (fun _ _ _ h => False.elim h) (Or.inl ⟨by rfl, ?_⟩) (by assumption) ?_
    rotate_left
    · intro w hSw
      (try dsimp only at hSw)
      go_simp
      all_goals with_reducible rfl
    (try simp only [Act.put, List.setIfInBounds_toArray, List.set_cons_zero, List.set_cons_succ])
    refine wpAnyH_take (i := 3) (oi := ⟨some 79, _, _, _, _, _⟩) (v := ?_) rfl (by kernel_rfl) (by kernel_rfl) (by kernel_rfl) (fun _ _ _ h => False.elim h) (Or.inl ⟨by rfl, ?_⟩) (by assumption) ?_
    rotate_left
    · intro w hSw
      (try dsimp only at hSw)
      go_simp
      all_goals with_reducible rfl
    (try simp only [Act.put, List.setIfInBounds_toArray, List.set_cons_zero, List.set_cons_succ])
    refine wpAnyH_ready (rs := [4]) (by kernel_rfl) (by simp) ?_
    refine AllReadyH.cons (o := ⟨some 80, _, _, _, _, _⟩) rfl (fun K hK => ?_) AllReadyH.nil
    go_simp
    (refine (HBEL2.out _ (drew_belowB w7)).mono ?_; rintro e w8 ⟨G8, cells8, rfl, hown8, hB8⟩; have hB78 := (drew_belowB w7).trans hB8; have i0 : w8.cell? ⟨P, 0, none⟩ = some (.int .u16 t) := (hB78.cell (p := ⟨P, 0, none⟩) hP7).trans h0; have i1 : w8.cell? ⟨G, k * 2, none⟩ = some (.int .u16 t) := (hB78.cell (p := ⟨G, k * 2, none⟩) hbm).trans hGk; have HPS8 := Lib.hid (HASB.out _ _ _ _ hown8); have HB78 := Lib.hid hB78; clear hown8 hB8 hB78)
    (try go_wp2_with fail)
    refine hK.out _ _ ?_ (fun hHeld => ?_)
    · ((try dsimp only); refine ⟨?_, ?_⟩ <;> (first | assumption | (go_keep; done)))
    clear hK K
    (try simp only [Act.put, List.setIfInBounds_toArray, List.set_cons_zero, List.set_cons_succ])
    refine wpAnyH_ready (rs := [5]) (by kernel_rfl) (by simp) ?_
    refine AllReadyH.cons (o := ⟨some 81, _, _, _, _, _⟩) rfl (fun K hK => ?_) AllReadyH.nil
    go_simp
    (refine (sameps_any (some ⟨G7, 0, none⟩) (some ⟨G8, 0, none⟩) k k k k lo w8 (HPS7.out.below HB78.out) HPS8.out).mono ?_; rintro e w9 ⟨rfl, hB9⟩; have HB79 := Lib.hid (HB78.out.trans (hB9.mono HB78.out.size)); have j0 : w9.cell? ⟨P, 0, none⟩ = some (.int .u16 t) := (HB79.out.cell (p := ⟨P, 0, none⟩) hP7).trans h0; have j1 : w9.cell? ⟨G, k * 2, none⟩ = some (.int .u16 t) := (HB79.out.cell (p := ⟨G, k * 2, none⟩) hbm).trans hGk; clear hB9)
    (try go_wp2_with fail)
    refine hK.out _ _ ?_ (fun hHeld => ?_)
    · ((try dsimp only); refine ⟨?_, ?_⟩ <;> (first | assumption | (go_keep; done)))
    clear hK K
    (try simp only [Act.put, List.setIfInBounds_toArray, List.set_cons_zero, List.set_cons_succ])
    refine wpAnyH_take (i := 6) (oi := ⟨some 82, _, _, _, _, _⟩) (v := ?_) rfl (by kernel_rfl) (by kernel_rfl) (by kernel_rfl) (fun _ _ _ h => False.elim h) (Or.inl ⟨by rfl, ?_⟩) (by assumption) ?_
    rotate_left
    · intro w hSw
      (try dsimp only at hSw)
      go_simp
      all_goals with_reducible rfl
    (try simp only [Act.put, List.setIfInBounds_toArray, List.set_cons_zero, List.set_cons_succ])
    refine wpAnyH_take (i := 7) (oi := ⟨some 83, _, _, _, _, _⟩) (v := ?_) rfl (by kernel_rfl) (by kernel_rfl) (by kernel_rfl) (fun _ _ _ h => False.elim h) (Or.inl ⟨by rfl, ?_⟩) (by assumption) ?_
    rotate_left
    · intro w hSw
      (try dsimp only at hSw)
      go_simp
      all_goals with_reducible rfl
    (try simp only [Act.put, List.setIfInBounds_toArray, List.set_cons_zero, List.set_cons_succ])
    refine wpAnyH_take (i := 8) (oi := ⟨some 84, _, _, _, _, _⟩) (v := ?_) rfl (by kernel_rfl) (by kernel_rfl) (by kernel_rfl) (fun _ _ _ h => False.elim h) (Or.inl ⟨by rfl, ?_⟩) (by assumption) ?_
    rotate_left
    · intro w hSw
      (try dsimp only at hSw)
      go_simp
      all_goals with_reducible rfl
    (try simp only [Act.put, List.setIfInBounds_toArray, List.set_cons_zero, List.set_cons_succ])
    refine wpAnyH_take (i := 9) (oi := ⟨some 85, _, _, _, _, _⟩) (v := ?_) rfl (by kernel_rfl) (by kernel_rfl) (by kernel_rfl) (fun _ _ _ h => False.elim h) (Or.inl ⟨by rfl, ?_⟩) (by assumption) ?_
    rotate_left
    · intro w hSw
      (try dsimp only at hSw)
      go_simp
      all_goals with_reducible rfl
    (try simp only [Act.put, List.setIfInBounds_toArray, List.set_cons_zero, List.set_cons_succ])
    refine wpAnyH_take (i := 10) (oi := ⟨some 86, _, _, _, _, _⟩) (v := ?_) rfl (by kernel_rfl) (by kernel_rfl) (by kernel_rfl) (fun _ _ _ h => False.elim h) (Or.inl ⟨by rfl, ?_⟩) (by assumption) ?_
    rotate_left
    · intro w hSw
      (try dsimp only at hSw)
      go_simp
      all_goals with_reducible rfl
    (try simp only [Act.put, List.setIfInBounds_toArray, List.set_cons_zero, List.set_cons_succ])
    refine wpAnyH_take (i := 11) (oi := ⟨some 87, _, _, _, _, _⟩) (v := .slice (some ⟨G, 0, none⟩) k (n + 1)) rfl (by kernel_rfl) (by kernel_rfl) (by kernel_rfl) (fun _ _ _ h => False.elim h) ?_ (by assumption) ?_
    · exact yieldsIf_sliceG (by rfl) 66 _ _ _ _ rfl _ _ Try.underlying66 (fun W => by simpa [Act.eval, Act.put] using HSL1.out W)
    (try simp only [Act.put, List.setIfInBounds_toArray, List.set_cons_zero, List.set_cons_succ])
    refine wpAnyH_take (i := 12) (oi := ⟨some 88, _, _, _, _, _⟩) (v := ?_) rfl (by kernel_rfl) (by kernel_rfl) (by kernel_rfl) (fun _ _ _ h => False.elim h) (Or.inl ⟨by rfl, ?_⟩) (by assumption) ?_
    rotate_left
    · intro w hSw
      (try dsimp only at hSw)
      go_simp
      all_goals with_reducible rfl
    (try simp only [Act.put, List.setIfInBounds_toArray, List.set_cons_zero, List.set_cons_succ])
    refine wpAnyH_ready (rs := [13]) (by kernel_rfl) (by simp) ?_
    refine AllReadyH.cons (o := ⟨some 89, _, _, _, _, _⟩) rfl (fun K hK => ?_) AllReadyH.nil
    go_simp
    (refine (sameps_any (some ⟨G, 0, none⟩) (some ⟨G7, 0, none⟩) k (n + 1) k k lo w9 (HPT1.out.below HB79.out) (HPS7.out.below HB79.out)).mono ?_; rintro e wa ⟨rfl, hBa⟩; have HB7a := Lib.hid (HB79.out.trans (hBa.mono HB79.out.size)); have l0 : wa.cell? ⟨P, 0, none⟩ = some (.int .u16 t) := (HB7a.out.cell (p := ⟨P, 0, none⟩) hP7).trans h0; have l1 : wa.cell? ⟨G, k * 2, none⟩ = some (.int .u16 t) := (HB7a.out.cell (p := ⟨G, k * 2, none⟩) hbm).trans hGk; clear hBa)
    (try go_wp2_with fail)
    refine hK.out _ _ ?_ (fun hHeld => ?_)
    · ((try dsimp only); refine ⟨?_, ?_⟩ <;> (first | assumption | (go_keep; done)))
    clear hK K
    (try simp only [Act.put, List.setIfInBounds_toArray, List.set_cons_zero, List.set_cons_succ])
    refine wpAnyH_take (i := 14) (oi := ⟨some 90, _, _, _, _, _⟩) (v := ?_) rfl (by kernel_rfl) (by kernel_rfl) (by kernel_rfl) (fun _ _ _ h => False.elim h) (Or.inl ⟨by rfl, ?_⟩) (by assumption) ?_
    rotate_left
    · intro w hSw
      (try dsimp only at hSw)
      go_simp
      all_goals with_reducible rfl
    (try simp only [Act.put, List.setIfInBounds_toArray, List.set_cons_zero, List.set_cons_succ])
    refine wpAnyH_take (i := 15) (oi := ⟨some 91, _, _, _, _, _⟩) (v := ?_) rfl (by kernel_rfl) (by kernel_rfl) (by kernel_rfl) (fun _ _ _ h => False.elim h) (Or.inl ⟨by rfl, ?_⟩) (by assumption) ?_
    rotate_left
    · intro w hSw
      (try dsimp only at hSw)
      go_simp
      all_goals with_reducible rfl
    (try simp only [Act.put, List.setIfInBounds_toArray, List.set_cons_zero, List.set_cons_succ])
    refine wpAnyH_take (i := 16) (oi := ⟨some 92, _, _, _, _, _⟩) (v := ?_) rfl (by kernel_rfl) (by kernel_rfl) (by kernel_rfl) (fun _ _ _ h => False.elim h) (Or.inl ⟨by rfl, ?_⟩) (by assumption) ?_
    rotate_left
    · intro w hSw
      (try dsimp only at hSw)
      go_simp
      all_goals with_reducible rfl
    (try simp only [Act.put, List.setIfInBounds_toArray, List.set_cons_zero, List.set_cons_succ])
    refine wpAnyH_take (i := 17) (oi := ⟨some 93, _, _, _, _, _⟩) (v := ?_) rfl (by kernel_rfl) (by kernel_rfl) (by kernel_rfl) (fun _ _ _ h => False.elim h) (Or.inl ⟨by rfl, ?_⟩) (by assumption) ?_
    rotate_left
    · intro w hSw
      (try dsimp only at hSw)
      go_simp
      all_goals with_reducible rfl
    (try simp only [Act.put, List.setIfInBounds_toArray, List.set_cons_zero, List.set_cons_succ])
    refine wpAnyH_take (i := 18) (oi := ⟨some 94, _, _, _, _, _⟩) (v := ?_) rfl (by kernel_rfl) (by kernel_rfl) (by kernel_rfl) (fun _ _ _ h => False.elim h) (Or.inl ⟨by rfl, ?_⟩) (by assumption) ?_
    rotate_left
    · intro w hSw
      (try dsimp only at hSw)
      go_simp
      all_goals with_reducible rfl
    (try simp only [Act.put, List.setIfInBounds_toArray, List.set_cons_zero, List.set_cons_succ])
    refine wpAnyH_take (i := 19) (oi := ⟨some 95, _, _, _, _, _⟩) (v := ?_) rfl (by kernel_rfl) (by kernel_rfl) (by kernel_rfl) (fun _ _ _ h => False.elim h) (Or.inl ⟨by rfl, ?_⟩) (by assumption) ?_
    rotate_left
    · intro w hSw
      (try dsimp only at hSw)
      go_simp
      all_goals with_reducible rfl
    (try simp only [Act.put, List.setIfInBounds_toArray, List.set_cons_zero, List.set_cons_succ])
    refine wpAnyH_take (i := 20) (oi := ⟨some 96, _, _, _, _, _⟩) (v := ?_) rfl (by kernel_rfl) (by kernel_rfl) (by kernel_rfl) (fun _ _ _ h => False.elim h) (Or.inl ⟨by rfl, ?_⟩) (by assumption) ?_
    rotate_left
    · intro w hSw
      (try dsimp only at hSw)
      go_simp
      all_goals with_reducible rfl
    (try simp only [Act.put, List.setIfInBounds_toArray, List.set_cons_zero, List.set_cons_succ])
    refine wpAnyH_take (i := 21) (oi := ⟨some 97, _, _, _, _, _⟩) (v := .slice A9 (n - k) (n - k)) rfl (by kernel_rfl) (by kernel_rfl) (by kernel_rfl) (fun _ _ _ h => False.elim h) ?_ (by assumption) ?_
    · exact yieldsIf_sliceG (by rfl) 66 _ _ _ _ rfl _ _ Try.underlying66 (fun W => by simpa [Act.eval, Act.put] using HSL2.out W)
    (try simp only [Act.put, List.setIfInBounds_toArray, List.set_cons_zero, List.set_cons_succ])
    refine wpAnyH_take (i := 22) (oi := ⟨some 98, _, _, _, _, _⟩) (v := ?_) rfl (by kernel_rfl) (by kernel_rfl) (by kernel_rfl) (fun _ _ _ h => False.elim h) (Or.inl ⟨by rfl, ?_⟩) (by assumption) ?_
    rotate_left
    · intro w hSw
      (try dsimp only at hSw)
      go_simp
      all_goals with_reducible rfl
    (try simp only [Act.put, List.setIfInBounds_toArray, List.set_cons_zero, List.set_cons_succ])
    refine wpAnyH_take (i := 23) (oi := ⟨some 99, _, _, _, _, _⟩) (v := ?_) rfl (by kernel_rfl) (by kernel_rfl) (by kernel_rfl) (fun _ _ _ h => False.elim h) (Or.inl ⟨by rfl, ?_⟩) (by assumption) ?_
    rotate_left
    · intro w hSw
      (try dsimp only at hSw)
      go_simp
      all_goals with_reducible rfl
    (try simp only [Act.put, List.setIfInBounds_toArray, List.set_cons_zero, List.set_cons_succ])
    refine wpAnyH_take (i := 24) (oi := ⟨some 100, _, _, _, _, _⟩) (v := ?_) rfl (by kernel_rfl) (by kernel_rfl) (by kernel_rfl) (fun _ _ _ h => False.elim h) (Or.inl ⟨by rfl, ?_⟩) (by assumption) ?_
    rotate_left
    · intro w hSw
      (try dsimp only at hSw)
      go_simp
      all_goals with_reducible rfl
    (try simp only [Act.put, List.setIfInBounds_toArray, List.set_cons_zero, List.set_cons_succ])
    refine wpAnyH_take (i := 25) (oi := ⟨some 101, _, _, _, _, _⟩) (v := .slice A10 (n - k) (c - k)) rfl (by kernel_rfl) (by kernel_rfl) (by kernel_rfl) (fun _ _ _ h => False.elim h) ?_ (by assumption) ?_
    · exact yieldsIf_sliceG (by rfl) 66 _ _ _ _ rfl _ _ Try.underlying66 (fun W => by simpa [Act.eval, Act.put] using HSL3.out W)
    (try simp only [Act.put, List.setIfInBounds_toArray, List.set_cons_zero, List.set_cons_succ])
    refine wpAnyH_ready (rs := [26]) (by kernel_rfl) (by simp) ?_
    refine AllReadyH.cons (o := ⟨some 102, _, _, _, _, _⟩) rfl (fun K hK => ?_) AllReadyH.nil
    go_simp
    (refine (sameps_any A9 A10 (n - k) (n - k) (n - k) (c - k) (ps.drop k) wa (HPD2.out _ HB7a.out) (HPD3.out _ (by have h1 := HB17.out; exact HB7a.out))).mono ?_; rintro e wb ⟨rfl, hBb⟩; have HB7b := Lib.hid (HB7a.out.trans (hBb.mono HB7a.out.size)); have m0 : wb.cell? ⟨P, 0, none⟩ = some (.int .u16 t) := (HB7b.out.cell (p := ⟨P, 0, none⟩) hP7).trans h0; have m1 : wb.cell? ⟨G, k * 2, none⟩ = some (.int .u16 t) := (HB7b.out.cell (p := ⟨G, k * 2, none⟩) hbm).trans hGk; clear hBb)
    (try go_wp2_with fail)
    refine hK.out _ _ ?_ (fun hHeld => ?_)
    · ((try dsimp only); refine ⟨?_, ?_⟩ <;> (first | assumption | (go_keep; done)))
    clear hK K
    (try simp only [Act.put, List.setIfInBounds_toArray, List.set_cons_zero, List.set_cons_succ])
    refine wpAnyH_take (i := 27) (oi := ⟨some 103, _, _, _, _, _⟩) (v := ?_) rfl (by kernel_rfl) (by kernel_rfl) (by kernel_rfl) (fun _ _ _ h => False.elim h) (Or.inl ⟨by rfl, ?_⟩) (by assumption) ?_
    rotate_left
    · intro w hSw
      (try dsimp only at hSw)
      go_simp
      all_goals with_reducible rfl
    (try simp only [Act.put, List.setIfInBounds_toArray, List.set_cons_zero, List.set_cons_succ])
    refine wpAnyH_take (i := 28) (oi := ⟨some 104, _, _, _, _, _⟩) (v := ?_) rfl (by kernel_rfl) (by kernel_rfl) (by kernel_rfl) (fun _ _ _ h => False.elim h) (Or.inl ⟨by rfl, ?_⟩) (by assumption) ?_
    rotate_left
    · intro w hSw
      (try dsimp only at hSw)
      go_simp
      all_goals with_reducible rfl
    (try simp only [Act.put, List.setIfInBounds_toArray, List.set_cons_zero, List.set_cons_succ])
    refine wpAnyH_done (by kernel_rfl) ?_ _
    refine NoPanic.normal ?_
    have HB0b := Lib.hid (HB07.out.trans (HB7b.out.mono HB07.out.size))
    clear HB79 HB7a HB78 HPD2 HPD3 HPT1 HSL1 HSL2 HSL3 HPS7 HPS8 HBEL2 i0 i1 j0 j1 l0 l1
    go_wp2_with fail
    refine wp_region_noPanic ?_
    refine wp_region_held_drew (S := (fun w' => w'.cell? ⟨P, 0, none⟩ = some (.int .u16 t) ∧ w'.cell? ⟨G, k * 2, none⟩ = some (.int .u16 t))) (by kernel_rfl) ?_ (fun hHeld => ?_)
    · ((try dsimp only); refine ⟨?_, ?_⟩ <;> (first | assumption | (go_keep; done)))
    refine wpAnyH_take (i := 0) (oi := ⟨some 105, _, _, _, _, _⟩) (v := ?_) rfl (by kernel_rfl) (by kernel_rfl) (by kernel_rfl) (fun _ _ _ h => False.elim h) (Or.inl ⟨by rfl, ?_⟩) (by assumption) ?_
    rotate_left
    · intro w hSw
      (try dsimp only at hSw)
      go_simp
      all_goals with_reducible rfl
    (try simp only [Act.put, List.setIfInBounds_toArray, List.set_cons_zero, List.set_cons_succ])
    refine wpAnyH_take (i := 1) (oi := ⟨some 106, _, _, _, _, _⟩) (v := ?_) rfl (by kernel_rfl) (by kernel_rfl) (by kernel_rfl) (fun _ _ _ h => False.elim h) (Or.inl ⟨by rfl, ?_⟩) (by assumption) ?_
    rotate_left
    · intro w hSw
      (try dsimp only at hSw)
      go_simp
      all_goals with_reducible rfl
    (try simp only [Act.put, List.setIfInBounds_toArray, List.set_cons_zero, List.set_cons_succ])
    refine wpAnyH_take (i := 2) (oi := ⟨some 107, _, _, _, _, _⟩) (v := ?_) rfl (by kernel_rfl) (by kernel_rfl) (by kernel_rfl) (fun _ _ _ h => False.elim h) (Or.inl ⟨by rfl, ?_⟩) (by assumption) ?_
    rotate_left
    · intro w hSw
      (try dsimp only at hSw)
      go_simp
      all_goals with_reducible rfl
    (try simp only [Act.put, List.setIfInBounds_toArray, List.set_cons_zero, List.set_cons_succ])
    refine wpAnyH_take (i := 3) (oi := ⟨some 108, _, _, _, _, _⟩) (v := ?_) rfl (by kernel_rfl) (by kernel_rfl) (by kernel_rfl) (fun _ _ _ h => False.elim h) (Or.inl ⟨by rfl, ?_⟩) (by assumption) ?_
    rotate_left
    · intro w hSw
      (try dsimp only at hSw)
      go_simp
      all_goals with_reducible rfl
    (try simp only [Act.put, List.setIfInBounds_toArray, List.set_cons_zero, List.set_cons_succ])
    refine wpAnyH_take (i := 4) (oi := ⟨some 109, _, _, _, _, _⟩) (v := ?_) rfl (by kernel_rfl) (by kernel_rfl) (by kernel_rfl) (fun _ _ _ h => False.elim h) (Or.inl ⟨by rfl, ?_⟩) (by assumption) ?_
    rotate_left
    · intro w hSw
      (try dsimp only at hSw)
      go_simp
      all_goals with_reducible rfl
    (try simp only [Act.put, List.setIfInBounds_toArray, List.set_cons_zero, List.set_cons_succ])
    refine wpAnyH_take (i := 5) (oi := ⟨some 110, _, _, _, _, _⟩) (v := ?_) rfl (by kernel_rfl) (by kernel_rfl) (by kernel_rfl) (fun _ _ _ h => False.elim h) (Or.inl ⟨by rfl, ?_⟩) (by assumption) ?_
    rotate_left
    · intro w hSw
      (try dsimp only at hSw)
      go_simp
      all_goals with_reducible rfl
    (try simp only [Act.put, List.setIfInBounds_toArray, List.set_cons_zero, List.set_cons_succ])
    refine wpAnyH_take (i := 6) (oi := ⟨some 111, _, _, _, _, _⟩) (v := ?_) rfl (by kernel_rfl) (by kernel_rfl) (by kernel_rfl) (fun _ _ _ h => False.elim h) (Or.inl ⟨by rfl, ?_⟩) (by assumption) ?_
    rotate_left
    · intro w hSw
      (try dsimp only at hSw)
      go_simp
      all_goals with_reducible rfl
    (try simp only [Act.put, List.setIfInBounds_toArray, List.set_cons_zero, List.set_cons_succ])
    refine wpAnyH_take (i := 7) (oi := ⟨some 112, _, _, _, _, _⟩) (v := ?_) rfl (by kernel_rfl) (by kernel_rfl) (by kernel_rfl) (fun _ _ _ h => False.elim h) (Or.inl ⟨by rfl, ?_⟩) (by assumption) ?_
    rotate_left
    · intro w hSw
      (try dsimp only at hSw)
      go_simp
      all_goals with_reducible rfl
    (try simp only [Act.put, List.setIfInBounds_toArray, List.set_cons_zero, List.set_cons_succ])
    refine wpAnyH_take (i := 8) (oi := ⟨some 113, _, _, _, _, _⟩) (v := ?_) rfl (by kernel_rfl) (by kernel_rfl) (by kernel_rfl) (fun _ _ _ h => False.elim h) (Or.inl ⟨by rfl, ?_⟩) (by assumption) ?_
    rotate_left
    · intro w hSw
      (try dsimp only at hSw)
      go_simp
      all_goals with_reducible rfl
    (try simp only [Act.put, List.setIfInBounds_toArray, List.set_cons_zero, List.set_cons_succ])
    refine wpAnyH_take (i := 9) (oi := ⟨some 114, _, _, _, _, _⟩) (v := ?_) rfl (by kernel_rfl) (by kernel_rfl) (by kernel_rfl) (fun _ _ _ h => False.elim h) (Or.inl ⟨by rfl, ?_⟩) (by assumption) ?_
    rotate_left
    · intro w hSw
      (try dsimp only at hSw)
      go_simp
      all_goals with_reducible rfl
    (try simp only [Act.put, List.setIfInBounds_toArray, List.set_cons_zero, List.set_cons_succ])
    refine wpAnyH_ready (rs := [10]) (by kernel_rfl) (by simp) ?_
    refine AllReadyH.cons (o := ⟨some 115, _, _, _, _, _⟩) rfl (fun K hK => ?_) AllReadyH.nil
    go_simp
    (refine (lives_true _).mono ?_; rintro e wc ⟨rfl, hBc⟩; have HBc := Lib.hid ((drew_belowB wb).trans hBc); have n0 : wc.cell? ⟨P, 0, none⟩ = some (.int .u16 t) := (HBc.out.cell (p := ⟨P, 0, none⟩) (Nat.lt_of_lt_of_le hP7 HB7b.out.size)).trans m0; have n1 : wc.cell? ⟨G, k * 2, none⟩ = some (.int .u16 t) := (HBc.out.cell (p := ⟨G, k * 2, none⟩) (Nat.lt_of_lt_of_le hbm HB7b.out.size)).trans m1; clear hBc)
    (try go_wp2_with fail)
    refine hK.out _ _ ?_ (fun hHeld => ?_)
    · ((try dsimp only); refine ⟨?_, ?_⟩ <;> (first | assumption | (go_keep; done)))
    clear hK K
    (try simp only [Act.put, List.setIfInBounds_toArray, List.set_cons_zero, List.set_cons_succ])
    refine wpAnyH_take (i := 11) (oi := ⟨some 116, _, _, _, _, _⟩) (v := ?_) rfl (by kernel_rfl) (by kernel_rfl) (by kernel_rfl) (fun _ _ _ h => False.elim h) (Or.inl ⟨by rfl, ?_⟩) (by assumption) ?_
    rotate_left
    · intro w hSw
      (try dsimp only at hSw)
      go_simp
      all_goals with_reducible rfl
    (try simp only [Act.put, List.setIfInBounds_toArray, List.set_cons_zero, List.set_cons_succ])
    refine wpAnyH_take (i := 12) (oi := ⟨some 4, _, _, _, _, _⟩) (v := ?_) rfl (by kernel_rfl) (by kernel_rfl) (by kernel_rfl) (fun _ _ _ h => False.elim h) (Or.inl ⟨by rfl, ?_⟩) (by assumption) ?_
    rotate_left
    · intro w hSw
      (try dsimp only at hSw)
      go_simp
      all_goals with_reducible rfl
    (try simp only [Act.put, List.setIfInBounds_toArray, List.set_cons_zero, List.set_cons_succ])
    refine wpAnyH_done (by kernel_rfl) ?_ _
    refine NoPanic.normal ?_
    have HBf := Lib.hid (HB0b.out.trans (HBc.out.mono HB0b.out.size))
    go_wp2_with fail
    go_ret
    exact ⟨rfl, HBf.out⟩

theorem two_parts (cs : List Value) (h : cs.length = 2) : cs.take 1 ++ (cs.drop 1).take 1 = cs := by
  match cs, h with
  | [a, b], _ => rfl
set_option maxRecDepth 100000 in
theorem paramsWith_walk {H : Type} {enc : TypeId × Value → H} {base : Nat} {d0 d1 : DataW H} {p0 p1 : List MemPlace} (v0 v1 : Value) (w : World)
    (o0 : Value.okWide Try.prog w .any base 66 v0) (k0 : DataW.Trod enc Try.prog w 0 (fun _ => true) true 66 v0 d0 p0) (z0 : (d0.weights Try.prog 66).all (· ≤ reachBytes) = true)
    (o1 : Value.okWide Try.prog w .any base 69 v1) (k1 : DataW.Trod enc Try.prog w 0 (fun _ => true) true 69 v1 d1 p1) (z1 : (d1.weights Try.prog 69).all (· ≤ reachBytes) = true) :
    Calls Try.prog 4 #[v0, v1] w fun e w' => e = .returned (.bool true) ∧ Below w.heap.size w w' := by
  obtain ⟨f0, hf0⟩ := k0
  obtain ⟨A, n, c, ps, ep, hps, hnc⟩ := open_piecesC hf0 z0
  obtain ⟨av, nv, cv, rfl⟩ : ∃ av nv cv, v0 = .slice av nv cv := okWide_slice Try.underlying66 o0
  simp only [Value.cells] at ep
  have ev : Value.slice av nv cv = .slice A n c := by simpa using ep
  rw [ev]
  obtain ⟨cs0, rfl, hs0⟩ := okWide_agg (.inl ⟨_, Try.underlying69⟩) o1
  obtain ⟨f1, hf1⟩ := k1
  obtain ⟨hl, m, hp⟩ := open_struct Try.underlying69 hf1
  obtain ⟨y0, hy0, L0⟩ := hp 0 _ rfl
  obtain ⟨y1, hy1, L1⟩ := hp 1 _ rfl
  simp only at hy0 hy1 L1
  obtain ⟨t, et, wt⟩ := cell_int Try.underlying67 hy0
  obtain ⟨B, mm, cc, xs, eb, hsl⟩ := open_sl Try.underlying38 Try.underlying5 (by kernel_rfl) (by rw [show Try.prog.bytesOf 5 = 1 from by kernel_rfl]; omega) hy1 (L1 z1)
  obtain ⟨cs0⟩ := cs0
  simp only [Value.cells] at hl et eb
  rw [show Try.prog.cellsOf 69 = 2 by kernel_rfl] at hl
  rw [show Try.prog.cellsOf 67 = 1 by kernel_rfl] at et
  rw [show Try.prog.cellsOf 38 = 1 by kernel_rfl] at eb
  have e := two_parts cs0 hl
  rw [List.drop_zero] at et
  rw [et, eb] at e
  have hcs : cs0 = [.int .u16 t, .slice B mm cc] := e.symm
  rw [hcs]
  obtain rfl : xs.length = mm := hsl.rd.len
  exact pwith_at A n c t B cc xs ps w hps hnc (wf_bounds_u16 wt) hsl.rd hsl.le hsl.nil
end Go.Proofs.Ytlcnjdpfijgcdaa
