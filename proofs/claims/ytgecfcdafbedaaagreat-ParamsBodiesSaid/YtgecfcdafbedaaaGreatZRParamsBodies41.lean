/- The walk over params.Get: bytes as pieces. -/
import Derived.Test.YtgecfcdafbedaaaGreatZRParamsBodies18
import Derived.Test.YtgecfcdafbedaaaGreatZRParamsBodies23
namespace Go.Proofs.YtgecfcdafbedaaaGreat
open Go.RowKit
set_option linter.unusedSimpArgs false
set_option linter.unusedVariables false

set_option maxRecDepth 100000 in
set_option maxHeartbeats 4000000 in
theorem paget_any (A0 : Option Addr) (n0 c0 : Nat) (bs : List Int) (w : World) (r0 : Rd w .u8 A0 n0 bs) (l0 : n0 ≤ c0) (hz0 : A0 = none → c0 = 0) :
    Calls Tryz.prog 40 #[.slice A0 n0 c0] w (GetRes w (paGet bs)) := by
  have hbig := r0.big
  have hl := r0.len
  by_cases h2048 : 2048 < n0
  · have hE : paGet bs = (3, []) := by unfold paGet; rw [if_pos (by omega)]
    rw [hE]
    have h' : (2048 : Int) < (n0 : Int) := by omega
    clear hE
    go_enter Tryz.func40, Tryz.ntmps40
    go_wp2_with fail
    go_step3
    go_wp2_with fail
    rw [Exit.noGoto_ret]
    go_ret2
    exact .inl ⟨by decide, rfl, Below.refl _ _⟩
  · have hE : getGo (n0 + 1) 0 [] bs = paGet bs := by unfold paGet; rw [if_neg (by omega), hl]
    have h' : ¬ ((2048 : Int) < (n0 : Int)) := by omega
    have hst : GetAt w (paGet bs) A0 n0 c0 (.slice none 0 0) 0 w := ⟨bs, [], n0 + 1, r0, l0, hz0, by omega, by omega, hE, ⟨[], own_nil _ _ _ _, fun j t body h => by simp at h, fun i j g n c n' c' _ h => by simp at h, fun i g n c h => by simp at h⟩, Below.refl _ _, by omega, by omega, by simp, by simp, by simp⟩
    have HST := Lib.hid hst
    clear hst hE
    generalize paGet bs = R at *
    go_enter Tryz.func40, Tryz.ntmps40
    go_wp2_with fail
    refine wp_scope_both 0 (fun a' w' => a'.tmps.size = 75 ∧ a'.defers = [] ∧ ∃ (A : Option Addr) (n c : Nat) (v : Value) (last : Int), a'.tmps.getD 0 undef = .slice A n c ∧ a'.tmps.getD 2 undef = v ∧ a'.tmps.getD 4 undef = .int .u64 last ∧ GetAt w R A n c v last w') (fun a' _ => lenOf0 (a'.tmps.getD 0 undef)) rfl ?pass ?first
    case first =>
      intro hpass
      go_wp2_with fail
      go_step3
      go_step
      rename_i hK
      exact hK _ _ (hpass _ _ ⟨rfl, rfl, A0, n0, c0, _, _, rfl, rfl, rfl, HST.out⟩)
    case pass =>
      rintro a' w' ⟨hsz, hdf, A, n, c, v, last, h0, h2, h4, hg⟩
      have hfr := frame_of a' 75 hsz hdf
      obtain ⟨u, hu⟩ : ∃ u : Nat → Value, (fun i => a'.tmps.getD i undef) = u := ⟨_, rfl⟩
      rw [hu, frame75 u] at hfr
      have hu0 : u 0 = .slice A n c := by rw [← hu]; exact h0
      have hu2 : u 2 = v := by rw [← hu]; exact h2
      have hu4 : u 4 = .int .u64 last := by rw [← hu]; exact h4
      rw [hu0, hu2, hu4] at hfr
      clear hsz hdf h0 h2 h4 hu hu0 hu2 hu4
      subst hfr
      obtain ⟨rest, outs, f, hrd0, hnc, hzz, hnf, hn2, hgo, hout, hB, hl0, hl1, ho16, hok, hbl⟩ := hg.at_
      have hrd := hrd0.below hB
      have HRD0 := Lib.hid hrd0
      have hrl := hrd.len
      obtain ⟨f, rfl⟩ : ∃ f', f = f' + 1 := ⟨f - 1, by omega⟩
      have HGO := Lib.hid hgo
      have HRD := Lib.hid hrd
      have HOUT := Lib.hid hout
      have HB := Lib.hid hB
      have HOK := Lib.hid hok
      have HBL := Lib.hid hbl
      have HRL := Lib.hid hrl
      have HZZ := Lib.hid hzz
      obtain ⟨cells, hown, _⟩ := hout
      obtain ⟨AO, co, rfl, hco, _, _⟩ := own_slice hown
      clear hg hgo hrd hrd0 hB hok hbl hrl hzz hown HST
      by_cases hn0 : n = 0
      · subst hn0
        have hR : R = (0, outs) := by rw [← HGO.out, getGo, if_pos (by rw [HRL.out])]
        have HR := Lib.hid hR
        have hclip := clipP_all AO outs.length co w' hco
        clear hR
        go_wp2_with fail
        refine hclip.mono ?_; rintro e w2 ⟨rfl, rfl⟩
        go_wp2_with fail
        simp only [Exit.jump]
        go_ret2
        refine .inr ⟨AO, ?_, ?_, ?_, ?_, HB.out⟩
        · rw [HR.out]
        · rw [HR.out]; rfl
        · rw [HR.out]; exact fun M w2 hM hk => ⟨(HOUT.out.keepM hk hM).ps rfl ho16 HOK.out HBL.out, (HOUT.out.keepM hk hM).own rfl⟩
        · intro e
          rw [HR.out]
          subst e
          obtain ⟨_, ho, _⟩ := HOUT.out
          rcases ho.2 with ⟨_, h⟩ | ⟨_, _, _, h, _⟩
          · exact h
          · injection h with h; cases h
      · by_cases hn4 : n < 4
        · have hR : R = (5, []) := by rw [← HGO.out, getGo, if_neg (by rw [HRL.out]; omega), if_pos (by rw [HRL.out]; omega)]
          have HR := Lib.hid hR
          have q1 : ¬ ((n : Int) = 0) := by omega
          have q2 : (n : Int) < 4 := by omega
          clear hR
          go_wp2_with fail
          simp only [Exit.jump]
          go_ret2
          exact .inl ⟨by rw [HR.out]; decide, by rw [HR.out]; rfl, HB.out⟩
        · have hg1 := get_any A n c rest 2 w' HRD.out hnc
          have e1 : getE n 2 = 0 := by unfold getE; rw [if_neg (by omega), if_neg (by omega)]
          have e2 : getN rest n 2 = told (rest.take 2) := by unfold getN; rw [e1]; rfl
          rw [e1, e2] at hg1
          obtain ⟨A2, hs2', hr2, hz2⟩ := slice_from A n c 2 (by omega) hnc HZZ.out
          have hs2 : ∀ W : World, (Instr.slice 22 (.slice A n c) (some (.int .i64 2)) none none).run Tryz.prog W = .ok (.slice A2 (n - 2) (c - 2)) W := hs2'
          clear hs2'
          have e3 : getE (n - 2) 2 = 0 := by unfold getE; rw [if_neg (by omega), if_neg (by omega)]
          have e4 : getN (rest.drop 2) (n - 2) 2 = told ((rest.drop 2).take 2) := by unfold getN; rw [e3]; rfl
          have hg2 : ∀ W, Below w'.heap.size w' W → Calls Tryz.prog 72 #[.slice A2 (n - 2) (c - 2), .int .i64 2] W fun e w'' => e = .returned (.tuple #[.int .u64 (told ((rest.drop 2).take 2)), .int .i64 0]) ∧ Below W.heap.size W w'' := fun W hW => by
            have := get_any A2 (n - 2) (c - 2) (rest.drop 2) 2 W (hr2 W rest (HRD.out.below hW)) (by omega)
            rwa [e3, e4] at this
          have hbyte := rd_bytes HRD.out
          have ht := told_bounds (rest.take 2) (fun x hx => hbyte x (List.mem_of_mem_take hx))
          have hm := told_bounds ((rest.drop 2).take 2) (fun x hx => hbyte x (List.mem_of_mem_drop (List.mem_of_mem_take hx)))
          have p2 : pow256 (rest.take 2).length = 65536 := by rw [List.length_take, HRL.out, Nat.min_eq_left (by omega)]; rfl
          have p3 : pow256 ((rest.drop 2).take 2).length = 65536 := by rw [List.length_take, List.length_drop, HRL.out, Nat.min_eq_left (by omega)]; rfl
          rw [p2] at ht
          rw [p3] at hm
          have hR : R = if n < fill8 (4 + (told ((rest.drop 2).take 2)).toNat) then (5, [])
            else if told (rest.take 2) ≤ last then (4, [])
            else if ((rest.drop (4 + (told ((rest.drop 2).take 2)).toNat)).take (fill8 (4 + (told ((rest.drop 2).take 2)).toNat) - (4 + (told ((rest.drop 2).take 2)).toNat))).any (fun x => decide (x ≠ 0)) then (4, [])
            else if 16 ≤ outs.length then (3, [])
            else getGo f (told (rest.take 2)) (outs ++ [(told (rest.take 2), (rest.drop 4).take (told ((rest.drop 2).take 2)).toNat)]) (rest.drop (fill8 (4 + (told ((rest.drop 2).take 2)).toNat))) := by
              rw [← HGO.out, getGo, if_neg (by rw [HRL.out]; omega), if_neg (by rw [HRL.out]; omega), HRL.out]
          obtain ⟨m, hmm⟩ := Int.eq_ofNat_of_zero_le hm.1
          rw [hmm] at hR hg2 hm
          simp only [Int.ofNat_eq_natCast, Int.toNat_natCast] at hR hg2 hm
          generalize told (rest.take 2) = t at *
          have HR := Lib.hid hR
          have HG1 := Lib.hid hg1
          have HG2 := Lib.hid hg2
          have HBY := Lib.hid hbyte
          have q1 : ¬ ((n : Int) = 0) := by omega
          have q2 : ¬ ((n : Int) < 4) := by omega
          have hfl := fun W => filled_any (4 + m) W (by omega)
          have hF := fill8_ge (4 + m)
          generalize fill8 (4 + m) = F at *
          have hwm : IntKind.i64.wrap (4 + (m : Int)) = ((4 + m : Nat) : Int) := by rw [IntWalk.i64_in _ (by omega)]; omega
          obtain ⟨D, hD⟩ : ∃ D, 4 + m = D := ⟨_, rfl⟩
          rw [hD] at hwm hfl HR hF
          have ht0 := ht.1
          have ht1 : t ≤ 65535 := by omega
          have hm1 : m ≤ 65535 := by omega
          clear hR hg1 hg2 hbyte hmm hm ht p2 p3 e1 e2 e3 e4 hr2 HGO
          go_wp2_with fail
          refine HG1.out.mono ?_; rintro e w1 ⟨rfl, hB1⟩
          have HB1 := Lib.hid hB1
          clear hB1
          go_wp2_with fail
          refine (HG2.out w1 HB1.out).mono ?_; rintro e w2 ⟨rfl, hB2⟩
          have HB2 := Lib.hid (HB1.out.trans (hB2.mono HB1.out.size))
          clear hB2 HB1
          go_wp2_with fail
          refine (hfl w2).mono ?_; rintro e w3 ⟨rfl, rfl⟩
          by_cases hend : n < F
          · have hend' : (n : Int) < (F : Int) := by omega
            have HR2 : Hid (R = (5, [])) := Lib.hid (by rw [HR.out, if_pos hend])
            have HB3 := Lib.hid (HB.out.trans (HB2.out.mono HB.out.size))
            go_wp2_with fail
            simp only [Exit.jump]
            go_ret2
            exact .inl ⟨by rw [HR2.out]; decide, by rw [HR2.out]; rfl, HB3.out⟩
          · have hend' : ¬ ((n : Int) < (F : Int)) := by omega
            by_cases hlt : t ≤ last
            · have HR2 : Hid (R = (4, [])) := Lib.hid (by rw [HR.out, if_neg hend, if_pos hlt])
              have HB3 := Lib.hid (HB.out.trans (HB2.out.mono HB.out.size))
              go_wp2_with fail
              simp only [Exit.jump]
              go_ret2
              exact .inl ⟨by rw [HR2.out]; decide, by rw [HR2.out]; rfl, HB3.out⟩
            · obtain ⟨A3, hs3, hr3, hz3⟩ := slice_mid A n c D F (by omega) (by omega) hnc HZZ.out
              have hhas := has0_any A3 (F - D) (c - D) _ w2 (hr3 w2 rest (HRD.out.below HB2.out)) (by omega)
              have HR2 : Hid (R = if ((rest.drop D).take (F - D)).any (fun x => decide (x ≠ 0)) then (4, []) else if 16 ≤ outs.length then (3, []) else getGo f t (outs ++ [(t, (rest.drop 4).take m)]) (rest.drop F)) := Lib.hid (by rw [HR.out, if_neg hend, if_neg hlt])
              generalize ((rest.drop D).take (F - D)).any (fun x => decide (x ≠ 0)) = z at *
              have HB3 := Lib.hid (HB.out.trans (HB2.out.mono HB.out.size))
              clear hr3 hz3 hfl HR
              cases z with
              | true =>
                have HR3 : Hid (R = (4, [])) := Lib.hid (by rw [HR2.out, if_pos rfl])
                clear HR2
                go_wp2_with fail
                refine hhas.mono ?_; rintro e w4 ⟨rfl, rfl⟩
                go_wp2_with fail
                simp only [Exit.jump]
                go_ret2
                exact .inl ⟨by rw [HR3.out]; decide, by rw [HR3.out]; rfl, HB3.out⟩
              | false =>
                by_cases h16 : 16 ≤ outs.length
                · have h16' : (16 : Int) ≤ (outs.length : Int) := by omega
                  have HR3 : Hid (R = (3, [])) := Lib.hid (by rw [HR2.out, if_neg (by simp), if_pos h16])
                  go_wp2_with fail
                  refine hhas.mono ?_; rintro e w4 ⟨rfl, rfl⟩
                  go_wp2_with fail
                  simp only [Exit.jump]
                  go_ret2
                  exact .inl ⟨by rw [HR3.out]; decide, by rw [HR3.out]; rfl, HB3.out⟩
                · have h16' : ¬ ((16 : Int) ≤ (outs.length : Int)) := by omega
                  have HR3 : Hid (getGo f t (outs ++ [(t, (rest.drop 4).take m)]) (rest.drop F) = R) := Lib.hid (by rw [HR2.out, if_neg (by simp), if_neg h16])
                  obtain ⟨A4, hs4, hr4, hz4⟩ := slice_mid A n c 4 D (by omega) (by omega) hnc HZZ.out
                  have hs4' : ∀ W : World, (Instr.slice 22 (.slice A n c) (some (.int .i64 4)) (some (.int .i64 (D : Int))) none).run Tryz.prog W = .ok (.slice A4 (D - 4) (c - 4)) W := hs4
                  have hDm : D - 4 = m := by omega
                  rw [hDm] at hs4' hr4
                  have hcl := clone_any A4 m (c - 4) _ w2 (hr4 w2 rest (HRD.out.below HB2.out)) (by omega) hz4
                  obtain ⟨A5, hs5, hr5, hz5⟩ := slice_from A n c F (by omega) hnc HZZ.out
                  have hbl : ((rest.drop 4).take m).length = m := by rw [List.length_take, List.length_drop, HRL.out]; omega
                  have hbby : ∀ x ∈ (rest.drop 4).take m, 0 ≤ x ∧ x ≤ 255 := fun x hx => HBY.out x (List.mem_of_mem_drop (List.mem_of_mem_take hx))
                  generalize (rest.drop 4).take m = body at *
                  have HBBY := Lib.hid hbby
                  clear hbby
                  have HR5 := Lib.hid hr5
                  have HZ5 := Lib.hid hz5
                  have HBLN := Lib.hid hbl
                  have hwt : IntKind.u16.wrap t = t := IntWalk.u16_in _ (by omega)
                  clear hs4 hr4 hz4 hr5 hz5 hbl HR2
                  go_wp2_with fail
                  refine hhas.mono ?_; rintro e w4 ⟨rfl, rfl⟩
                  go_wp2_with fail
                  refine hcl.mono ?_; rintro e w5 ⟨A6, c6, rfl, hc6, ho6, hz6, hB6⟩
                  have HB6 := Lib.hid (HB2.out.trans (hB6.mono HB2.out.size))
                  have HBODY : Hid (BodyAt w w5 A6 body) := Lib.hid ⟨c6, by rw [HBLN.out]; exact hc6, by rw [HBLN.out]; exact own_mono ho6 (HB3.out.size), fun e => by have := hz6 e; rw [HBLN.out]; omega⟩
                  obtain ⟨cells2, hown2, hbod2, hun2, hold2⟩ := HOUT.out.below HB2.out
                  have hk25 : Keeps (fun _ => False) w2 w5 := Keeps.of_below hB6
                  have hown5 := hk25.own hown2 (fun _ _ h => h)
                  have hbod5 : ∀ j t body, outs[j]? = some (t, body) → ∃ B, cells2[j * 2]? = some (.int .u16 t) ∧ cells2[j * 2 + 1]? = some (.slice B body.length body.length) ∧ BodyAt w w5 B body := fun j t body hj => by
                    obtain ⟨B, h1, h2, c', h3, h4, h5⟩ := hbod2 j t body hj
                    exact ⟨B, h1, h2, c', h3, hk25.own h4 (fun _ _ h => h), h5⟩
                  have HUN := Lib.hid hun2
                  have HOLD := Lib.hid hold2
                  have HSZ := Lib.hid hB6.size
                  have HNEW : Hid (∀ g, A6 = some ⟨g, 0, none⟩ → w2.heap.size ≤ g ∧ g < w5.heap.size) := Lib.hid (fun g e => by subst e; exact own_base ho6 g rfl)
                  have HOWN := Lib.hid hown5
                  have HBOD := Lib.hid hbod5
                  have HBW := Lib.hid (HB.out.trans (HB6.out.mono HB.out.size))
                  clear hown5 hbod5 ho6 hz6 hB6 hhas hcl hown2 hbod2 hun2 hold2 hk25
                  go_wp2_with fail
                  refine (clip_all A6 m c6 w5 hc6).mono ?_; rintro e w6 ⟨rfl, rfl⟩
                  go_wp2_with (at_builtin; refine append_one (W := w5) w.heap.size rfl _ _ 70 69 (.agg #[.int .u16 0, .slice none 0 0]) 2 32 rfl Tryz.underlying70 info_param rfl (by omega) (by omega) (.slice AO outs.length co) outs.length cells2 [.int .u16 t, .slice A6 m m] rfl rfl rfl (by simp [Value.oneCell']) HOWN.out HBW.out.size (by omega) ?_; intro v7 w7 ho7 hk7 hb7)
                  have HO7 := Lib.hid ho7
                  have HK7 := Lib.hid hk7
                  clear ho7 hk7 hb7
                  go_quiet (fail)
                  rename_i nq
                  go_wp2_with fail
                  go_step3
                  have hB7 : Below w.heap.size w w7 := below_keeps HBW.out HK7.out (Nat.le_refl _) (fun i hi => (own_base HOWN.out i hi).1)
                  have hout7 : OutAt w v7 (outs ++ [(t, body)]) w7 := OutAt.snoc HOWN.out HBOD.out HUN.out HOLD.out HSZ.out HNEW.out HBODY.out (by rw [HBLN.out]; exact HO7.out) HK7.out
                  refine ⟨rfl, ⟨rfl, rfl, A5, n - F, c - F, v7, t, rfl, rfl, rfl, ⟨rest.drop F, outs ++ [(t, body)], f, HR5.out _ rest HRD0.out, by omega, HZ5.out, by omega, by omega, HR3.out, hout7.drewN nq, (below_drewN hB7 nq), ht0, ht1, by simp; omega, ?_, ?_⟩⟩, ?_⟩
                  · intro p hp
                    rcases List.mem_append.1 hp with hp | hp
                    · exact HOK.out p hp
                    · obtain rfl : p = (t, body) := by simpa using hp
                      exact ⟨ht0, ht1, HBBY.out⟩
                  · intro p hp
                    rcases List.mem_append.1 hp with hp | hp
                    · exact HBL.out p hp
                    · obtain rfl : p = (t, body) := by simpa using hp
                      have := HBLN.out
                      simp only; omega
                  · simp [lenOf0]; omega
end Go.Proofs.YtgecfcdafbedaaaGreat
