/- The law PacketsAgain: the walk. -/
import Derived.Test.YtfbkapaopnhbbaaKLive
import Derived.Test.YtfbkapaopnhbbaaKSamePk
namespace Go.Proofs.Ytfbkapaopnhbbaa
open Go.RowKit
set_option linter.unusedSimpArgs false
set_option linter.unusedVariables false

/-- Put of what Get tells is what it was. -/
theorem put_of_get {b : List Int} (hb : isB b) (h : pkGetE b = 0) : isB b ∧ 40 ≤ b.length ∧ b.length ≤ 2048 ∧ ((1 : Int) ≤ b[1]?.getD 0 ∧ b[1]?.getD 0 ≤ 8) ∧ putE (paGet (b.drop 40)).2 = 0 ∧ pieces (paGet (b.drop 40)).2 = b.drop 40 ∧ pkB (b[1]?.getD 0) ((b.drop 8).take 16) ((b.drop 24).take 16) (b.drop 40) = b := by
  unfold pkGetE at h
  split at h
  · cases h
  · split at h
    · cases h
    · split at h
      · cases h
      · rename_i h1 h2 h3
        have hok : okB b = true := by simpa using h3
        obtain ⟨k1, k2, k3⟩ := okB_back hb (by omega) (by omega) hok
        have hg : paGet (b.drop 40) = (0, (paGet (b.drop 40)).2) := by rw [← h]
        obtain ⟨p1, p2, p3⟩ := paPut_get (fun x hx => hb x (List.mem_of_mem_drop hx)) hg
        exact ⟨hb, by omega, by omega, ⟨k1, k2⟩, p1, p2, k3⟩

set_option maxRecDepth 100000 in
set_option maxHeartbeats 4000000 in
theorem packetsAgain_walk (A0 : Option Addr) (n0 c0 : Nat) (x0 : List Int) (w : World) (r0 : Rd w .u8 A0 n0 x0) (l0 : n0 ≤ c0) (e0 : A0 = none → c0 = 0) (m0 : c0 ≤ 140737488351232) (q0 : 0 < c0 → ∃ b off, A0 = some ⟨b, off, none⟩) :
    Calls Try.prog 4 #[.slice A0 n0 c0] w fun e w' => e = .returned (.bool true) ∧ Below w.heap.size w w' := by
  obtain ⟨Z, hZ⟩ : ∃ Z, zPkt = Z := ⟨_, rfl⟩
  have hZl : Z.length = 34 := by rw [← hZ]; exact pktC_length rfl rfl
  have hZ1 : ∀ v ∈ Z, v.oneCell' = true := by rw [← hZ]; exact pktC_one
  have hsz : (Try.prog.info? 27).map (·.size) = some Z.length := by rw [hZl]; exact info_pkt
  have hsame : ∀ W : World, Calls Try.prog 9 #[.agg Z.toArray, .agg Z.toArray] W fun e w' => e = .returned (.bool true) ∧ Below W.heap.size W w' := fun W => hZ ▸ samepk_any 0 zer16 zer16 [] none none 0 0 0 0 W (ps_nil W) (ps_nil W) rfl rfl
  have hu : Try.prog.underlying 27 = some (.struct _) := Try.underlying27
  have hget := pkget_any A0 n0 c0 x0 w r0 l0 e0
  have HZ := Lib.hid hZ
  have HZL := Lib.hid hZl
  have HZ1 := Lib.hid hZ1
  have HSZ := Lib.hid hsz
  have HSM := Lib.hid hsame
  have HU := Lib.hid hu
  have HGET := Lib.hid hget
  have HR := Lib.hid r0
  clear hZ hZl hZ1 hsz hsame hu hget r0 m0 q0
  go_enter Try.func4, Try.ntmps4
  go_wp2_with fail
  refine HGET.out.mono ?_
  rintro e w1 (⟨hne, rfl, hB1⟩ | ⟨A, n, h00, hn, rfl, hps, hz, hB1⟩)
  · have HNE := Lib.hid hne
    have HB1 := Lib.hid hB1
    generalize pkGetE x0 = E at *
    rw [HZ.out]
    clear hB1
    have HK6 : Hid (Blk (w1.alloc (.cells Z.toArray 27)) w1.heap.size 27 Z) := Lib.hid (Blk.new w1 27 Z)
    have HK7 : Hid (Blk ((w1.alloc (.cells Z.toArray 27)).setCells w1.heap.size 0 Z) w1.heap.size 27 Z) := Lib.hid (by
      have := Blk.setCells Z 0 _ _ HK6.out (by omega)
      rwa [splice_whole _ _ rfl] at this)
    have HB7 : Hid (Below w.heap.size w ((w1.alloc (.cells Z.toArray 27)).setCells w1.heap.size 0 Z)) := Lib.hid (HB1.out.trans ((below_keeps (new_below w1 _) (Keeps.setCells (g := w1.heap.size) Z 0 _) (Nat.le_refl _) (fun i hi => by subst hi; exact Nat.le_refl _)).mono HB1.out.size))
    go_wp2_with (first
      | (refine wpList_value (o := ⟨some 3, .alloc 27, _, _, _, _⟩) (v := .pointer (some ⟨w1.heap.size, 0, none⟩)) (w' := w1.alloc (.cells zPkt.toArray 27)) rfl (by kernel_rfl) ?_; rw [HZ.out])
      | (refine wpList_store_mid rfl 27 _ _ rfl w1.heap.size 0 Z.toArray rfl rfl (HK6.out.there 0 _ (by simp)) (by simpa using HSZ.out) (all_oneCell_toArray HZ1.out) ?_; rw [show Z.toArray.toList = Z from rfl])
      | (refine wpList_load_mid rfl 27 _ rfl w1.heap.size 0 rfl Z _ HK7.out.range HU.out rfl HSZ.out ?_)
      | (refine wpList_value (o := ⟨some 15, .build 27 _, _, _, _, _⟩) (v := .agg zPkt.toArray) (w' := (w1.alloc (.cells Z.toArray 27)).setCells w1.heap.size 0 Z) rfl (by kernel_rfl) ?_; rw [HZ.out]))
    refine (HSM.out _).mono ?_; rintro e w3 ⟨rfl, hB3⟩
    have HB3 := Lib.hid (HB7.out.trans (hB3.mono HB7.out.size))
    clear hB3
    go_wp2_with fail
    refine (lives_true w3).mono ?_; rintro e w4 ⟨rfl, hB4⟩
    have HB4 := Lib.hid (HB3.out.trans (hB4.mono HB3.out.size))
    clear hB4
    go_wp2_with fail
    go_ret
    exact ⟨rfl, HB4.out⟩
  · obtain ⟨hb, h40, h2048, hk, hpe, hpi, hpk⟩ := put_of_get (isB_rd HR.out) h00
    obtain ⟨kd, hkd⟩ : ∃ kd, x0[1]?.getD 0 = kd := ⟨_, rfl⟩
    obtain ⟨f, hf⟩ : ∃ f, (x0.drop 8).take 16 = f := ⟨_, rfl⟩
    obtain ⟨t, ht⟩ : ∃ t, (x0.drop 24).take 16 = t := ⟨_, rfl⟩
    obtain ⟨ps, hpps⟩ : ∃ ps, (paGet (x0.drop 40)).2 = ps := ⟨_, rfl⟩
    rw [hkd] at hk hpk ⊢
    rw [hf, ht] at hpk ⊢
    rw [hpps] at hps hpe hpi hn
    have hfl : f.length = 16 := by rw [← hf]; simp; omega
    have htl : t.length = 16 := by rw [← ht]; simp; omega
    have hfb : isB f := fun x hx => hb x (List.mem_of_mem_drop (List.mem_of_mem_take (by rw [hf]; exact hx)))
    have htb : isB t := fun x hx => hb x (List.mem_of_mem_drop (List.mem_of_mem_take (by rw [ht]; exact hx)))
    rw [← hpi] at hpk
    have hE : pkE kd ps = 0 := by
      have hlen : (pieces ps).length ≤ 2008 := by rw [hpi]; simp; omega
      unfold pkE
      rw [if_pos hk, if_pos hpe, if_neg (by omega)]
    have hput : ∀ W, Below w1.heap.size w1 W → Calls Try.prog 6 #[.agg (pktC kd f t (.slice A n n)).toArray] W fun e w' => ∃ g L, e = .returned (.tuple #[.slice (some ⟨g, 0, none⟩) L L, .int .i64 0]) ∧ Rd w' .u8 (some ⟨g, 0, none⟩) L x0 ∧ Below W.heap.size W w' := fun W hW => by
      refine (pkput_any kd f t ps A n n W (hps.ps.below hW) hfl htl hfb htb (by omega)).mono ?_
      rintro e w' (⟨hne, _⟩ | ⟨g, L, _, hL, rfl, _, hr, hB⟩)
      · exact absurd hE hne
      · rw [hpk] at hr
        exact ⟨g, L, rfl, hr, hB⟩
    have hYl : (pktC kd f t (.slice A n n)).length = Z.length := by rw [pktC_length hfl htl, HZL.out]
    have hY1 : ∀ v ∈ pktC kd f t (.slice A n n), v.oneCell' = true := pktC_one
    generalize pktC kd f t (.slice A n n) = Y at *
    have HPUT := Lib.hid hput
    have HYL := Lib.hid hYl
    have HY1 := Lib.hid hY1
    have HB1 := Lib.hid hB1
    have HK6 : Hid (Blk (w1.alloc (.cells Z.toArray 27)) w1.heap.size 27 Z) := Lib.hid (Blk.new w1 27 Z)
    have HK7 : Hid (Blk ((w1.alloc (.cells Z.toArray 27)).setCells w1.heap.size 0 Y) w1.heap.size 27 Y) := Lib.hid (by
      have := Blk.setCells Y 0 _ _ HK6.out (by omega)
      rwa [splice_whole _ _ hYl] at this)
    have HB7 : Hid (Below w1.heap.size w1 ((w1.alloc (.cells Z.toArray 27)).setCells w1.heap.size 0 Y)) := Lib.hid (below_keeps (new_below w1 _) (Keeps.setCells (g := w1.heap.size) Y 0 _) (Nat.le_refl _) (fun i hi => by subst hi; exact Nat.le_refl _))
    have HSZY : Hid ((Try.prog.info? 27).map (·.size) = some Y.length) := Lib.hid (by rw [hYl]; exact HSZ.out)
    clear hput hYl hY1 hB1 hps hpe hpi hn hz h00 hb h40 h2048 hk hpk hkd hf ht hpps hfl htl hfb htb hE
    go_wp2_with (first
      | (refine wpList_value (o := ⟨some 3, .alloc 27, _, _, _, _⟩) (v := .pointer (some ⟨w1.heap.size, 0, none⟩)) (w' := w1.alloc (.cells zPkt.toArray 27)) rfl (by kernel_rfl) ?_; rw [HZ.out])
      | (refine wpList_store_mid rfl 27 _ _ rfl w1.heap.size 0 Y.toArray rfl rfl (HK6.out.there 0 _ (by simp [HYL.out])) (by simpa using HSZY.out) (all_oneCell_toArray HY1.out) ?_; rw [show Y.toArray.toList = Y from rfl])
      | (refine wpList_load_mid rfl 27 _ rfl w1.heap.size 0 rfl Y _ HK7.out.range HU.out rfl HSZY.out ?_))
    refine (HPUT.out _ HB7.out).mono ?_; rintro e w3 ⟨g, L, rfl, hr3, hB3⟩
    have HB13 := Lib.hid (HB1.out.trans ((HB7.out.trans (hB3.mono HB7.out.size)).mono HB1.out.size))
    have hsm := same_any (some ⟨g, 0, none⟩) L L x0 A0 n0 c0 x0 w3 hr3 (HR.out.below HB13.out)
    rw [decide_eq_true rfl] at hsm
    have HSM2 := Lib.hid hsm
    clear hsm hr3 hB3
    go_wp2_with fail
    refine HSM2.out.mono ?_; rintro e w4 ⟨rfl, hD⟩
    have HB14 := Lib.hid (below_drawn HB13.out hD)
    clear hD
    go_wp2_with fail
    refine (lives_true w4).mono ?_; rintro e w5 ⟨rfl, hB5⟩
    have HB15 := Lib.hid (HB14.out.trans (hB5.mono HB14.out.size))
    clear hB5
    go_wp2_with fail
    go_ret
    exact ⟨rfl, HB15.out⟩
end Go.Proofs.Ytfbkapaopnhbbaa
