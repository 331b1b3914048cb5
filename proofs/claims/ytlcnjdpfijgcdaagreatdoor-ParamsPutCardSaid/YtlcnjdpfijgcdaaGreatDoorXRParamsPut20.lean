/- The walk over the document's With. -/
import Derived.Test.YtlcnjdpfijgcdaaGreatDoorXRParamsPut19
namespace Go.Proofs.YtlcnjdpfijgcdaaGreatDoor
open Go.RowKit
set_option linter.unusedSimpArgs false
set_option linter.unusedVariables false

def RWithRes (w : World) (ps : List Piece) (p : Piece) (e : Ending) (w' : World) : Prop :=
  (withE ps p.1 ≠ 0 ∧ e = .returned (.tuple #[.slice none 0 0, .int .i64 (withE ps p.1)]) ∧ Below w.heap.size w w') ∨
  ∃ A c cells, withE ps p.1 = 0 ∧ e = .returned (.tuple #[.slice A (withL ps p).length c, .int .i64 0]) ∧ PsOwn w.heap.size w' (.slice A (withL ps p).length c) (withL ps p) cells ∧ Below w.heap.size w w'
theorem take_snocP {ps : List Piece} {k : Nat} {p : Piece} (h : ps[k]? = some p) : ps.take (k + 1) = ps.take k ++ [p] := by
  have := (List.getElem?_eq_some_iff.1 h)
  rw [List.take_succ_eq_append_getElem this.1, this.2]
theorem below_drawnN {w w' : World} {n : Nat} (h : Below w.heap.size w w') : Below w.heap.size w (w'.drewN n) := ⟨h.os, h.tape, h.output, h.size, h.block⟩


set_option maxRecDepth 100000 in
set_option maxHeartbeats 8000000 in
theorem rwith_any (A : Option Addr) (n c : Nat) (t : Int) (B : Option Addr) (m d : Nat) (body : List Int) (ps : List Piece) (w : World) (hps : Ps w A n ps) (hn : n < 1099511627776) (ht : 0 ≤ t ∧ t ≤ 65535) (hrd : Rd w .u8 B m body) (hmd : m ≤ d) (hz : B = none → d = 0) :
    Calls Tryz.prog 20 #[.slice A n c, .agg #[.int .u16 t, .slice B m d]] w (RWithRes w ps (t, body)) := by
  obtain rfl : body.length = m := hrd.len
  have hB := new_belowB w (.cells #[.int .u16 t, .slice B body.length d] 53)
  have hkp : Blk (w.alloc (.cells #[.int .u16 t, .slice B body.length d] 53)) w.heap.size 53 [.int .u16 t, .slice B body.length d] := Blk.new w 53 [.int .u16 t, .slice B body.length d]
  have hP1 : (w.alloc (.cells #[.int .u16 t, .slice B body.length d] 53)).heap.size = w.heap.size + 1 := by simp
  have hmay := refmay_any A n c ps _ (hps.below hB)
  obtain ⟨w1, hw1⟩ : ∃ w1, w.alloc (.cells #[.int .u16 t, .slice B body.length d] 53) = w1 := ⟨_, rfl⟩
  rw [hw1] at hB hkp hmay hP1
  have hl := hps.len
  have HW1 := Lib.hid hw1
  have HMAY := Lib.hid hmay
  have HB := Lib.hid hB
  have HKP := Lib.hid hkp
  have HPS1 := Lib.hid (hps.below hB)
  have HL := Lib.hid hl
  have HRD1 := Lib.hid (hrd.below hB)
  have HZ := Lib.hid hz
  obtain ⟨P, hP⟩ : ∃ P, w.heap.size = P := ⟨_, rfl⟩
  rw [hP] at HKP hP1
  have HP1 := Lib.hid hP1
  obtain ⟨P1, hPe⟩ : ∃ P1, P + 1 = P1 := ⟨_, rfl⟩
  rw [hPe] at HP1
  have hPP1 : P < P1 := by omega
  have hwP1 : w.heap.size ≤ P1 := by omega
  have p0 : w1.cell? ⟨P, 0, none⟩ = some (.int .u16 t) := HKP.out.cell 0
  have p1 : w1.cell? ⟨P, 1, none⟩ = some (.slice B body.length d) := HKP.out.cell 1
  have hcases := withE_cases ps t
  have HC := Lib.hid hcases
  clear hw1 hmay hB hkp hps hl hrd hz hcases hP1 hPe
  cases hr : rises 0 ps with
  | false =>
    have hE : withE ps t = 1 := by unfold withE; rw [if_pos hr]
    have HE := Lib.hid hE
    rw [hr] at HMAY
    clear hE hr
    go_enter Tryz.func20, Tryz.ntmps20
    go_wp2_with fail
    rw [HW1.out]; clear hP
    refine HMAY.out.mono ?_; rintro e w2 ⟨rfl, hD2⟩
    have HB2 := Lib.hid (below_drawn HB.out hD2)
    clear hD2
    go_wp2_with fail
    go_ret2
    exact .inl ⟨by rw [HE.out]; omega, by rw [HE.out]; rfl, HB2.out⟩
  | true =>
    rw [hr] at HMAY
    have HR := Lib.hid hr
    by_cases ht0 : t = 0
    · have hE : withE ps t = 1 := by unfold withE; rw [if_neg (by rw [hr]; simp), if_pos ht0]
      have HE := Lib.hid hE
      have hq : (t == 0) = true := beq_iff_eq.2 ht0
      clear hE hr ht0
      go_enter Tryz.func20, Tryz.ntmps20
      go_wp2_with fail
      rw [HW1.out]; clear hP
      refine HMAY.out.mono ?_; rintro e w2 ⟨rfl, hD2⟩
      obtain ⟨q2, rfl⟩ := hD2
      have HB2 := Lib.hid (below_drewN HB.out q2)
      have c0 : (w1.drewN q2).cell? ⟨P, 0, none⟩ = some (.int .u16 t) := p0
      clear p0 p1
      go_wp2_with fail
      go_ret2
      exact .inl ⟨by rw [HE.out]; omega, by rw [HE.out]; rfl, HB2.out⟩
    · have hq : (t == 0) = false := beq_eq_false_iff_ne.2 ht0
      have HT0 := Lib.hid ht0
      clear hr ht0
      go_enter Tryz.func20, Tryz.ntmps20
      go_wp2_with fail
      rw [HW1.out]; clear hP
      refine HMAY.out.mono ?_; rintro e w2 ⟨rfl, hD2⟩
      have hB12 : Below w1.heap.size w1 w2 := below_drawn (Below.refl _ _) hD2
      have c0 : w2.cell? ⟨P, 0, none⟩ = some (.int .u16 t) := (hB12.cell (p := ⟨P, 0, none⟩) HKP.out.lt).trans p0
      have c1 : w2.cell? ⟨P, 1, none⟩ = some (.slice B body.length d) := (hB12.cell (p := ⟨P, 1, none⟩) HKP.out.lt).trans p1
      have hfind := rfind_any A n c t ps w2 (HPS1.out.below hB12) hn
      have HFIND := Lib.hid hfind
      have HB12 := Lib.hid hB12
      clear hfind hB12 hD2
      go_wp2_with fail
      refine HFIND.out.mono ?_; rintro e w3 (⟨hf, rfl, hB3⟩ | ⟨body0, B0, c0', hf, rfl, -, hB3⟩)
      · have hB13 : Below w1.heap.size w1 w3 := HB12.out.trans (hB3.mono HB12.out.size)
        have HB13 := Lib.hid hB13
        have d0 : w3.cell? ⟨P, 0, none⟩ = some (.int .u16 t) := (hB13.cell (p := ⟨P, 0, none⟩) HKP.out.lt).trans p0
        have d1 : w3.cell? ⟨P, 1, none⟩ = some (.slice B body.length d) := (hB13.cell (p := ⟨P, 1, none⟩) HKP.out.lt).trans p1
        have HF := Lib.hid hf
        clear hf hB3 hB13 c0 c1 HFIND
        by_cases h16 : 16 ≤ n
        · have hE : withE ps t = 3 := by
            rcases HC.out with ⟨_, h | h⟩ | ⟨_, _, h, _⟩ | ⟨_, _, _, _, hE⟩ | ⟨_, _, _, h, _⟩
            · rw [HR.out] at h; cases h
            · exact absurd h HT0.out
            · rw [HF.out] at h; cases h
            · exact hE
            · have := HL.out; omega
          have HE := Lib.hid hE
          have h16' : (16 : Int) ≤ (n : Int) := by omega
          have HBF := Lib.hid (HB.out.trans (HB13.out.mono HB.out.size))
          clear hE
          go_wp2_with fail
          go_ret2
          exact .inl ⟨by rw [HE.out]; omega, by rw [HE.out]; rfl, HBF.out⟩
        · have hE : withE ps t = 0 := by
            rcases HC.out with ⟨_, h | h⟩ | ⟨_, _, h, _⟩ | ⟨_, _, _, h, _⟩ | ⟨_, _, _, _, hE⟩
            · rw [HR.out] at h; cases h
            · exact absurd h HT0.out
            · rw [HF.out] at h; cases h
            · have := HL.out; omega
            · exact hE
          have HE := Lib.hid hE
          have h16' : ¬ (16 : Int) ≤ (n : Int) := by omega
          have hP1w : P1 ≤ w1.heap.size := by rw [HP1.out]; exact Nat.le_refl _
          have HB13' : Hid (Below P1 w1 w3) := Lib.hid (by have := HB13.out; rwa [HP1.out] at this)
          clear hE HC
          go_wp2_with fail
          go_loopw [8, 9] (fun v i wr => ∃ (k : Nat) (hs : List Hd), k ≤ n ∧ i = .int .i64 k ∧ OutsAt P1 w1 wr v hs (ps.take k) ∧ (∀ j p, j < k → ps[j]? = some p → p.1 < t)) (fun _ i _ => n - (intOf i).toNat)
          case atStart => exact ⟨0, [], Nat.zero_le _, rfl, outsAt_nil _ _ _ HB13'.out, fun j p hj => absurd hj (by omega)⟩
          case round =>
            obtain ⟨k, hs, hk, rfl, ho, hlo⟩ := hrel
            obtain ⟨AA, cc, rfl, -, -, -⟩ := own_slice ho.row
            have hB := ho.below
            have HOO := Lib.hid ho
            have HLO := Lib.hid hlo
            have k0 : (0 : Int) ≤ (k : Int) := by omega
            have kadd : IntKind.i64.wrap ((k : Int) + 1) = (k : Int) + 1 := IntWalk.i64_in _ (by omega)
            have hszr : P1 ≤ wr.heap.size := by rw [← HP1.out]; exact hB.size
            have c0 : wr.cell? ⟨P, 0, none⟩ = some (.int .u16 t) := (hB.cell (p := ⟨P, 0, none⟩) hPP1).trans p0
            have c1 : wr.cell? ⟨P, 1, none⟩ = some (.slice B body.length d) := (hB.cell (p := ⟨P, 1, none⟩) hPP1).trans p1
            have hlen : hs.length ≤ n := by
              have h1 := ho.len
              have h2 : (ps.take k).length ≤ k := List.length_take_le _ _
              omega
            clear ho hlo
            by_cases hlt : k < n
            · obtain ⟨b, off, rfl, hb, hc⟩ := (HPS1.out.below (by rw [HP1.out]; exact hB)).row (by omega)
              obtain ⟨u, bodyu, B1, m1, d1', h1, h2, h3, h4, h5, h6, h7⟩ := hc k hlt
              obtain rfl : bodyu.length = m1 := h5.len
              have k1 : (k : Int) < (n : Int) := by omega
              have HTK := Lib.hid (take_snocP h1)
              have h3' : wr.cell? ⟨b, off + k * 2, none⟩ = some (.int .u16 u) := h3
              have H1 := Lib.hid h1
              by_cases hut : u < t
              · have hdu : decide (u < t) = true := decide_eq_true hut
                have htw := rtwin_any u B1 bodyu.length d1' bodyu (wr.drew) (h5.below (drew_belowB wr)) h6 h7
                have HTW := Lib.hid htw
                clear hc h1 h5 h7 htw hB
                go_wp2_with fail
                refine wp_region_noPanic ?_
                refine wp_region_held_drew (S := (fun w' => w'.cell? ⟨b, off + k * 2, none⟩ = some (.int .u16 u) ∧ w'.cell? ⟨b, off + k * 2 + 1, none⟩ = some (.slice B1 bodyu.length d1') ∧ w'.cell? ⟨P, 0, none⟩ = some (.int .u16 t) ∧ w'.cell? ⟨P, 1, none⟩ = some (.slice B body.length d))) (by kernel_rfl) ?_ (fun hHeld => ?_)
                · ((try dsimp only); refine ⟨?_, ?_, ?_, ?_⟩ <;> (first | assumption | (go_keep; done)))
                refine wpAnyH_take (i := 0) (oi := ⟨some 30, _, _, _, _, _⟩) (v := ?_) rfl (by kernel_rfl) (by kernel_rfl) (by kernel_rfl) (fun _ _ _ h => False.elim h) (Or.inl ⟨by rfl, ?_⟩) (by assumption) ?_
                rotate_left
                · intro w hSw
                  (try dsimp only at hSw)
                  go_simp
                  all_goals with_reducible rfl
                (try simp only [Act.put, List.setIfInBounds_toArray, List.set_cons_zero, List.set_cons_succ])
                refine wpAnyH_take (i := 1) (oi := ⟨some 31, _, _, _, _, _⟩) (v := ?_) rfl (by kernel_rfl) (by kernel_rfl) (by kernel_rfl) (fun _ _ _ h => False.elim h) (Or.inl ⟨by rfl, ?_⟩) (by assumption) ?_
                rotate_left
                · intro w hSw
                  (try dsimp only at hSw)
                  go_simp
                  all_goals with_reducible rfl
                (try simp only [Act.put, List.setIfInBounds_toArray, List.set_cons_zero, List.set_cons_succ])
                refine wpAnyH_take (i := 2) (oi := ⟨some 32, _, _, _, _, _⟩) (v := ?_) rfl (by kernel_rfl) (by kernel_rfl) (by kernel_rfl) (fun _ _ _ h => False.elim h) (Or.inl ⟨by rfl, ?_⟩) (by assumption) ?_
                rotate_left
                · intro w hSw
                  (try dsimp only at hSw)
                  go_simp
                  all_goals with_reducible rfl
                (try simp only [Act.put, List.setIfInBounds_toArray, List.set_cons_zero, List.set_cons_succ])
                refine wpAnyH_take (i := 3) (oi := ⟨some 33, _, _, _, _, _⟩) (v := ?_) rfl (by kernel_rfl) (by kernel_rfl) (by kernel_rfl) (fun _ _ _ h => False.elim h) (Or.inl ⟨by rfl, ?_⟩) (by assumption) ?_
                rotate_left
                · intro w hSw
                  (try dsimp only at hSw)
                  go_simp
                  all_goals with_reducible rfl
                (try simp only [Act.put, List.setIfInBounds_toArray, List.set_cons_zero, List.set_cons_succ])
                refine wpAnyH_take (i := 4) (oi := ⟨some 34, _, _, _, _, _⟩) (v := ?_) rfl (by kernel_rfl) (by kernel_rfl) (by kernel_rfl) (fun _ _ _ h => False.elim h) (Or.inl ⟨by rfl, ?_⟩) (by assumption) ?_
                rotate_left
                · intro w hSw
                  (try dsimp only at hSw)
                  go_simp
                  all_goals with_reducible rfl
                (try simp only [Act.put, List.setIfInBounds_toArray, List.set_cons_zero, List.set_cons_succ])
                refine wpAnyH_take (i := 5) (oi := ⟨some 35, _, _, _, _, _⟩) (v := ?_) rfl (by kernel_rfl) (by kernel_rfl) (by kernel_rfl) (fun _ _ _ h => False.elim h) (Or.inl ⟨by rfl, ?_⟩) (by assumption) ?_
                rotate_left
                · intro w hSw
                  (try dsimp only at hSw)
                  go_simp
                  all_goals with_reducible rfl
                (try simp only [Act.put, List.setIfInBounds_toArray, List.set_cons_zero, List.set_cons_succ])
                refine wpAnyH_take (i := 6) (oi := ⟨some 36, _, _, _, _, _⟩) (v := ?_) rfl (by kernel_rfl) (by kernel_rfl) (by kernel_rfl) (fun _ _ _ h => False.elim h) (Or.inl ⟨by rfl, ?_⟩) (by assumption) ?_
                rotate_left
                · intro w hSw
                  (try dsimp only at hSw)
                  go_simp
                  all_goals with_reducible rfl
                (try simp only [Act.put, List.setIfInBounds_toArray, List.set_cons_zero, List.set_cons_succ])
                refine wpAnyH_take (i := 7) (oi := ⟨some 37, _, _, _, _, _⟩) (v := ?_) rfl (by kernel_rfl) (by kernel_rfl) (by kernel_rfl) (fun _ _ _ h => False.elim h) (Or.inl ⟨by rfl, ?_⟩) (by assumption) ?_
                rotate_left
                · intro w hSw
                  (try dsimp only at hSw)
                  go_simp
                  all_goals with_reducible rfl
                (try simp only [Act.put, List.setIfInBounds_toArray, List.set_cons_zero, List.set_cons_succ])
                refine wpAnyH_take (i := 8) (oi := ⟨some 38, _, _, _, _, _⟩) (v := ?_) rfl (by kernel_rfl) (by kernel_rfl) (by kernel_rfl) (fun _ _ _ h => False.elim h) (Or.inl ⟨by rfl, ?_⟩) (by assumption) ?_
                rotate_left
                · intro w hSw
                  (try dsimp only at hSw)
                  go_simp
                  all_goals with_reducible rfl
                (try simp only [Act.put, List.setIfInBounds_toArray, List.set_cons_zero, List.set_cons_succ])
                refine wpAnyH_take (i := 9) (oi := ⟨some 39, _, _, _, _, _⟩) (v := ?_) rfl (by kernel_rfl) (by kernel_rfl) (by kernel_rfl) (fun _ _ _ h => False.elim h) (Or.inl ⟨by rfl, ?_⟩) (by assumption) ?_
                rotate_left
                · intro w hSw
                  (try dsimp only at hSw)
                  go_simp
                  all_goals with_reducible rfl
                (try simp only [Act.put, List.setIfInBounds_toArray, List.set_cons_zero, List.set_cons_succ])
                refine wpAnyH_take (i := 10) (oi := ⟨some 40, _, _, _, _, _⟩) (v := ?_) rfl (by kernel_rfl) (by kernel_rfl) (by kernel_rfl) (fun _ _ _ h => False.elim h) (Or.inl ⟨by rfl, ?_⟩) (by assumption) ?_
                rotate_left
                · intro w hSw
                  (try dsimp only at hSw)
                  go_simp
                  all_goals with_reducible rfl
                (try simp only [Act.put, List.setIfInBounds_toArray, List.set_cons_zero, List.set_cons_succ])
                refine wpAnyH_take (i := 11) (oi := ⟨some 41, _, _, _, _, _⟩) (v := ?_) rfl (by kernel_rfl) (by kernel_rfl) (by kernel_rfl) (fun _ _ _ h => False.elim h) (Or.inl ⟨by rfl, ?_⟩) (by assumption) ?_
                rotate_left
                · intro w hSw
                  (try dsimp only at hSw)
                  go_simp
                  all_goals with_reducible rfl
                (try simp only [Act.put, List.setIfInBounds_toArray, List.set_cons_zero, List.set_cons_succ])
                refine wpAnyH_take (i := 12) (oi := ⟨some 42, _, _, _, _, _⟩) (v := ?_) rfl (by kernel_rfl) (by kernel_rfl) (by kernel_rfl) (fun _ _ _ h => False.elim h) (Or.inl ⟨by rfl, ?_⟩) (by assumption) ?_
                rotate_left
                · intro w hSw
                  (try dsimp only at hSw)
                  go_simp
                  all_goals with_reducible rfl
                (try simp only [Act.put, List.setIfInBounds_toArray, List.set_cons_zero, List.set_cons_succ])
                refine wpAnyH_take (i := 13) (oi := ⟨some 43, _, _, _, _, _⟩) (v := ?_) rfl (by kernel_rfl) (by kernel_rfl) (by kernel_rfl) (fun _ _ _ h => False.elim h) (Or.inl ⟨by rfl, ?_⟩) (by assumption) ?_
                rotate_left
                · intro w hSw
                  (try dsimp only at hSw)
                  go_simp
                  all_goals with_reducible rfl
                (try simp only [Act.put, List.setIfInBounds_toArray, List.set_cons_zero, List.set_cons_succ])
                refine wpAnyH_done (by kernel_rfl) ?_ _
                refine NoPanic.normal ?_
                go_wp2_with fail
                refine HTW.out.mono ?_; rintro e w4 ⟨B4, cb4, rfl, hrow4, hB4⟩
                have HB4 := Lib.hid ((drew_belowB wr).trans hB4)
                have HO4 := Lib.hid (HOO.out.belowB hszr HB4.out)
                have HROW4 := Lib.hid hrow4
                have HLT4 := Lib.hid HOO.out.lt
                have hbz4 : P1 ≤ w4.heap.size := Nat.le_trans hszr HB4.out.size
                clear hrow4 hB4
                go_wp2_with (at_builtin; refine append_one (W := w4) P1 rfl _ _ 25 53 (.agg #[.int .u16 0, .slice none 0 0]) 2 32 rfl Tryz.underlying25 info_paramH rfl (by omega) (by omega) (.slice AA hs.length cc) hs.length (hcells hs) [.int .u16 u, .slice B4 bodyu.length cb4] rfl rfl rfl (by simp [Value.oneCell']) HO4.out.row hbz4 (by omega) ?_; intro v5 w5 ho5 hk5 hb5; have HO5 := Lib.hid ho5; have HK5 := Lib.hid hk5; clear ho5 hk5 hb5)
                go_roundw
                case rel =>
                  have := HO4.out.snoc (m := wr.heap.size) (x := ⟨(u, bodyu), B4, cb4⟩) HLT4.out hszr hP1w HROW4.out HO5.out HK5.out
                  refine ⟨k + 1, hs ++ [⟨(u, bodyu), B4, cb4⟩], by omega, by go_num, by rw [HTK.out]; exact this, fun j p hj hp => ?_⟩
                  rcases Nat.lt_or_ge j k with h | h
                  · exact HLO.out j p h hp
                  · obtain rfl : j = k := by omega
                    rw [H1.out] at hp
                    injection hp with hp
                    subst hp
                    exact hut
                case measure => simp [intOf]; omega
              · have hdu : decide (u < t) = false := decide_eq_false hut
                have hend : ps.take k = paBelow ps t := (below_take HLO.out (fun j p hj hp => by
                  rcases Nat.lt_or_ge k j with h | h
                  · have := rises_at HR.out k j _ _ h H1.out hp
                    simp only at this
                    omega
                  · obtain rfl : j = k := by omega
                    rw [H1.out] at hp
                    injection hp with hp
                    subst hp
                    simp only; omega)).symm
                have HEND := Lib.hid hend
                have htwp := rtwin_any t B body.length d body wr.drew ((HRD1.out.below (by rw [HP1.out]; exact hB)).below (drew_belowB wr)) hmd HZ.out
                have HTWP := Lib.hid htwp
                clear hc h1 h5 h7 hend htwp hB
                go_wp2_with fail
                refine wp_region_noPanic ?_
                refine wp_region_held_drew (S := (fun w' => w'.cell? ⟨b, off + k * 2, none⟩ = some (.int .u16 u) ∧ w'.cell? ⟨b, off + k * 2 + 1, none⟩ = some (.slice B1 bodyu.length d1') ∧ w'.cell? ⟨P, 0, none⟩ = some (.int .u16 t) ∧ w'.cell? ⟨P, 1, none⟩ = some (.slice B body.length d))) (by kernel_rfl) ?_ (fun hHeld => ?_)
                · ((try dsimp only); refine ⟨?_, ?_, ?_, ?_⟩ <;> (first | assumption | (go_keep; done)))
                refine wpAnyH_take (i := 0) (oi := ⟨some 30, _, _, _, _, _⟩) (v := ?_) rfl (by kernel_rfl) (by kernel_rfl) (by kernel_rfl) (fun _ _ _ h => False.elim h) (Or.inl ⟨by rfl, ?_⟩) (by assumption) ?_
                rotate_left
                · intro w hSw
                  (try dsimp only at hSw)
                  go_simp
                  all_goals with_reducible rfl
                (try simp only [Act.put, List.setIfInBounds_toArray, List.set_cons_zero, List.set_cons_succ])
                refine wpAnyH_take (i := 1) (oi := ⟨some 31, _, _, _, _, _⟩) (v := ?_) rfl (by kernel_rfl) (by kernel_rfl) (by kernel_rfl) (fun _ _ _ h => False.elim h) (Or.inl ⟨by rfl, ?_⟩) (by assumption) ?_
                rotate_left
                · intro w hSw
                  (try dsimp only at hSw)
                  go_simp
                  all_goals with_reducible rfl
                (try simp only [Act.put, List.setIfInBounds_toArray, List.set_cons_zero, List.set_cons_succ])
                refine wpAnyH_take (i := 2) (oi := ⟨some 32, _, _, _, _, _⟩) (v := ?_) rfl (by kernel_rfl) (by kernel_rfl) (by kernel_rfl) (fun _ _ _ h => False.elim h) (Or.inl ⟨by rfl, ?_⟩) (by assumption) ?_
                rotate_left
                · intro w hSw
                  (try dsimp only at hSw)
                  go_simp
                  all_goals with_reducible rfl
                (try simp only [Act.put, List.setIfInBounds_toArray, List.set_cons_zero, List.set_cons_succ])
                refine wpAnyH_take (i := 3) (oi := ⟨some 33, _, _, _, _, _⟩) (v := ?_) rfl (by kernel_rfl) (by kernel_rfl) (by kernel_rfl) (fun _ _ _ h => False.elim h) (Or.inl ⟨by rfl, ?_⟩) (by assumption) ?_
                rotate_left
                · intro w hSw
                  (try dsimp only at hSw)
                  go_simp
                  all_goals with_reducible rfl
                (try simp only [Act.put, List.setIfInBounds_toArray, List.set_cons_zero, List.set_cons_succ])
                refine wpAnyH_take (i := 4) (oi := ⟨some 34, _, _, _, _, _⟩) (v := ?_) rfl (by kernel_rfl) (by kernel_rfl) (by kernel_rfl) (fun _ _ _ h => False.elim h) (Or.inl ⟨by rfl, ?_⟩) (by assumption) ?_
                rotate_left
                · intro w hSw
                  (try dsimp only at hSw)
                  go_simp
                  all_goals with_reducible rfl
                (try simp only [Act.put, List.setIfInBounds_toArray, List.set_cons_zero, List.set_cons_succ])
                refine wpAnyH_take (i := 5) (oi := ⟨some 35, _, _, _, _, _⟩) (v := ?_) rfl (by kernel_rfl) (by kernel_rfl) (by kernel_rfl) (fun _ _ _ h => False.elim h) (Or.inl ⟨by rfl, ?_⟩) (by assumption) ?_
                rotate_left
                · intro w hSw
                  (try dsimp only at hSw)
                  go_simp
                  all_goals with_reducible rfl
                (try simp only [Act.put, List.setIfInBounds_toArray, List.set_cons_zero, List.set_cons_succ])
                refine wpAnyH_take (i := 6) (oi := ⟨some 36, _, _, _, _, _⟩) (v := ?_) rfl (by kernel_rfl) (by kernel_rfl) (by kernel_rfl) (fun _ _ _ h => False.elim h) (Or.inl ⟨by rfl, ?_⟩) (by assumption) ?_
                rotate_left
                · intro w hSw
                  (try dsimp only at hSw)
                  go_simp
                  all_goals with_reducible rfl
                (try simp only [Act.put, List.setIfInBounds_toArray, List.set_cons_zero, List.set_cons_succ])
                refine wpAnyH_take (i := 7) (oi := ⟨some 37, _, _, _, _, _⟩) (v := ?_) rfl (by kernel_rfl) (by kernel_rfl) (by kernel_rfl) (fun _ _ _ h => False.elim h) (Or.inl ⟨by rfl, ?_⟩) (by assumption) ?_
                rotate_left
                · intro w hSw
                  (try dsimp only at hSw)
                  go_simp
                  all_goals with_reducible rfl
                (try simp only [Act.put, List.setIfInBounds_toArray, List.set_cons_zero, List.set_cons_succ])
                refine wpAnyH_take (i := 8) (oi := ⟨some 38, _, _, _, _, _⟩) (v := ?_) rfl (by kernel_rfl) (by kernel_rfl) (by kernel_rfl) (fun _ _ _ h => False.elim h) (Or.inl ⟨by rfl, ?_⟩) (by assumption) ?_
                rotate_left
                · intro w hSw
                  (try dsimp only at hSw)
                  go_simp
                  all_goals with_reducible rfl
                (try simp only [Act.put, List.setIfInBounds_toArray, List.set_cons_zero, List.set_cons_succ])
                refine wpAnyH_take (i := 9) (oi := ⟨some 39, _, _, _, _, _⟩) (v := ?_) rfl (by kernel_rfl) (by kernel_rfl) (by kernel_rfl) (fun _ _ _ h => False.elim h) (Or.inl ⟨by rfl, ?_⟩) (by assumption) ?_
                rotate_left
                · intro w hSw
                  (try dsimp only at hSw)
                  go_simp
                  all_goals with_reducible rfl
                (try simp only [Act.put, List.setIfInBounds_toArray, List.set_cons_zero, List.set_cons_succ])
                refine wpAnyH_take (i := 10) (oi := ⟨some 40, _, _, _, _, _⟩) (v := ?_) rfl (by kernel_rfl) (by kernel_rfl) (by kernel_rfl) (fun _ _ _ h => False.elim h) (Or.inl ⟨by rfl, ?_⟩) (by assumption) ?_
                rotate_left
                · intro w hSw
                  (try dsimp only at hSw)
                  go_simp
                  all_goals with_reducible rfl
                (try simp only [Act.put, List.setIfInBounds_toArray, List.set_cons_zero, List.set_cons_succ])
                refine wpAnyH_take (i := 11) (oi := ⟨some 41, _, _, _, _, _⟩) (v := ?_) rfl (by kernel_rfl) (by kernel_rfl) (by kernel_rfl) (fun _ _ _ h => False.elim h) (Or.inl ⟨by rfl, ?_⟩) (by assumption) ?_
                rotate_left
                · intro w hSw
                  (try dsimp only at hSw)
                  go_simp
                  all_goals with_reducible rfl
                (try simp only [Act.put, List.setIfInBounds_toArray, List.set_cons_zero, List.set_cons_succ])
                refine wpAnyH_take (i := 12) (oi := ⟨some 42, _, _, _, _, _⟩) (v := ?_) rfl (by kernel_rfl) (by kernel_rfl) (by kernel_rfl) (fun _ _ _ h => False.elim h) (Or.inl ⟨by rfl, ?_⟩) (by assumption) ?_
                rotate_left
                · intro w hSw
                  (try dsimp only at hSw)
                  go_simp
                  all_goals with_reducible rfl
                (try simp only [Act.put, List.setIfInBounds_toArray, List.set_cons_zero, List.set_cons_succ])
                refine wpAnyH_take (i := 13) (oi := ⟨some 43, _, _, _, _, _⟩) (v := ?_) rfl (by kernel_rfl) (by kernel_rfl) (by kernel_rfl) (fun _ _ _ h => False.elim h) (Or.inl ⟨by rfl, ?_⟩) (by assumption) ?_
                rotate_left
                · intro w hSw
                  (try dsimp only at hSw)
                  go_simp
                  all_goals with_reducible rfl
                (try simp only [Act.put, List.setIfInBounds_toArray, List.set_cons_zero, List.set_cons_succ])
                refine wpAnyH_done (by kernel_rfl) ?_ _
                refine NoPanic.normal ?_
                obtain ⟨WW, hWW⟩ : ∃ WW, wr.drew = WW := ⟨_, rfl⟩
                have HOW := Lib.hid (HOO.out.belowB hszr (drew_belowB wr))
                have hszW : P1 ≤ wr.drew.heap.size := hszr
                rw [hWW] at HOW hszW HTWP ⊢
                have e0 : WW.cell? ⟨P, 0, none⟩ = some (.int .u16 t) := by rw [← hWW]; exact c0
                have e1 : WW.cell? ⟨P, 1, none⟩ = some (.slice B body.length d) := by rw [← hWW]; exact c1
                clear hWW HOO c0 c1 h3 h4 h3' hszr HB13 HB13' HB12 HMAY d0 d1
                go_wp2_with fail
                refine HTWP.out.mono ?_; rintro e w4 ⟨B4, cb4, rfl, hrow4, hB4⟩
                have HO4 := Lib.hid (HOW.out.belowB hszW hB4)
                have HROW4 := Lib.hid hrow4
                have HLT4 := Lib.hid HOW.out.lt
                have hbz4 : P1 ≤ w4.heap.size := Nat.le_trans hszW hB4.size
                clear hrow4 hB4 HTWP
                go_wp2_with (at_builtin; refine append_one (W := w4) P1 rfl _ _ 25 53 (.agg #[.int .u16 0, .slice none 0 0]) 2 32 rfl Tryz.underlying25 info_paramH rfl (by omega) (by omega) (.slice AA hs.length cc) hs.length (hcells hs) [.int .u16 t, .slice B4 body.length cb4] rfl rfl rfl (by simp [Value.oneCell']) HO4.out.row hbz4 (by omega) ?_; intro v5 w5 ho5 hk5 hb5; have HO5 := Lib.hid ho5; have HK5 := Lib.hid hk5; clear ho5 hk5 hb5)
                have hO5 := HO4.out.snoc (m := WW.heap.size) (x := ⟨(t, body), B4, cb4⟩) HLT4.out hszW hP1w (by exact HROW4.out) HO5.out HK5.out
                have HOT5 := Lib.hid hO5
                have HK0 := Lib.hid HEND.out
                clear hO5 HO5 HK5 HO4 HROW4 HLT4 HOW
                go_loopw [8, 10] (fun v i wr => ∃ (j : Nat) (ks : List Hd), j ≤ n ∧ i = .int .i64 j ∧ OutsAt P1 w1 wr v ks (paBelow ps t ++ [(t, body)] ++ paAbove (ps.take j) t)) (fun _ i _ => n - (intOf i).toNat)
                case atStart =>
                  refine ⟨0, hs ++ [⟨(t, body), B4, cb4⟩], Nat.zero_le _, rfl, ?_⟩
                  have := HOT5.out
                  rw [HEND.out] at this
                  simpa [paAbove] using this
                case round =>
                  obtain ⟨j, ks, hj, rfl, ho⟩ := hrel
                  obtain ⟨AA2, cc2, rfl, -, -, -⟩ := own_slice ho.row
                  have hB := ho.below
                  have HO := Lib.hid ho
                  have j0 : (0 : Int) ≤ (j : Int) := by omega
                  have jadd : IntKind.i64.wrap ((j : Int) + 1) = (j : Int) + 1 := IntWalk.i64_in _ (by omega)
                  have hszr : P1 ≤ wr.heap.size := by rw [← HP1.out]; exact hB.size
                  have c0 : wr.cell? ⟨P, 0, none⟩ = some (.int .u16 t) := (hB.cell (p := ⟨P, 0, none⟩) hPP1).trans p0
                  have c1 : wr.cell? ⟨P, 1, none⟩ = some (.slice B body.length d) := (hB.cell (p := ⟨P, 1, none⟩) hPP1).trans p1
                  clear ho
                  by_cases hjn : j < n
                  · obtain ⟨b2, off2, hA2, hb2, hc2⟩ := (HPS1.out.below (by rw [HP1.out]; exact hB)).row (by omega)
                    (first | subst hA2 | (simp only [Option.some.injEq, Addr.mk.injEq, and_true] at hA2; obtain ⟨hA3, hA4⟩ := hA2; have hA5 := hA3.symm; have hA6 := hA4.symm; clear hA3 hA4; subst hA5; subst hA6))
                    obtain ⟨u2, body2, B2, m2, d2, g1, g2, g3, g4, g5, g6, g7⟩ := hc2 j hjn
                    obtain rfl : body2.length = m2 := g5.len
                    have j1 : (j : Int) < (n : Int) := by omega
                    have HTJ := Lib.hid (take_snocP g1)
                    have g3' : wr.cell? ⟨b2, off2 + j * 2, none⟩ = some (.int .u16 u2) := g3
                    by_cases hut2 : t < u2
                    · have htw2 := rtwin_any u2 B2 body2.length d2 body2 (wr.drew) (g5.below (drew_belowB wr)) g6 g7
                      have HTW2 := Lib.hid htw2
                      have hlen2 : ks.length ≤ n + 1 + n := by
                        have h1 := HO.out.len
                        have h2 : (paAbove (ps.take j) t).length ≤ j := Nat.le_trans (List.length_filter_le _ _) (List.length_take_le _ _)
                        have h3 : (paBelow ps t).length ≤ n := by have := below_le ps t; have := HL.out; omega
                        simp only [List.length_append, List.length_singleton] at h1
                        omega
                      have hd2 : decide (t < u2) = true := decide_eq_true hut2
                      clear hc2 g1 g5 g7 htw2 hB
                      go_wp2_with fail
                      refine wp_region_noPanic ?_
                      refine wp_region_held_drew (S := (fun w' => w'.cell? ⟨b2, off2 + j * 2, none⟩ = some (.int .u16 u2) ∧ w'.cell? ⟨b2, off2 + j * 2 + 1, none⟩ = some (.slice B2 body2.length d2) ∧ w'.cell? ⟨P, 0, none⟩ = some (.int .u16 t) ∧ w'.cell? ⟨P, 1, none⟩ = some (.slice B body.length d))) (by kernel_rfl) ?_ (fun hHeld => ?_)
                      · ((try dsimp only); refine ⟨?_, ?_, ?_, ?_⟩ <;> (first | assumption | (go_keep; done)))
                      refine wpAnyH_take (i := 0) (oi := ⟨some 65, _, _, _, _, _⟩) (v := ?_) rfl (by kernel_rfl) (by kernel_rfl) (by kernel_rfl) (fun _ _ _ h => False.elim h) (Or.inl ⟨by rfl, ?_⟩) (by assumption) ?_
                      rotate_left
                      · intro w hSw
                        (try dsimp only at hSw)
                        go_simp
                        all_goals with_reducible rfl
                      (try simp only [Act.put, List.setIfInBounds_toArray, List.set_cons_zero, List.set_cons_succ])
                      refine wpAnyH_take (i := 1) (oi := ⟨some 66, _, _, _, _, _⟩) (v := ?_) rfl (by kernel_rfl) (by kernel_rfl) (by kernel_rfl) (fun _ _ _ h => False.elim h) (Or.inl ⟨by rfl, ?_⟩) (by assumption) ?_
                      rotate_left
                      · intro w hSw
                        (try dsimp only at hSw)
                        go_simp
                        all_goals with_reducible rfl
                      (try simp only [Act.put, List.setIfInBounds_toArray, List.set_cons_zero, List.set_cons_succ])
                      refine wpAnyH_take (i := 2) (oi := ⟨some 67, _, _, _, _, _⟩) (v := ?_) rfl (by kernel_rfl) (by kernel_rfl) (by kernel_rfl) (fun _ _ _ h => False.elim h) (Or.inl ⟨by rfl, ?_⟩) (by assumption) ?_
                      rotate_left
                      · intro w hSw
                        (try dsimp only at hSw)
                        go_simp
                        all_goals with_reducible rfl
                      (try simp only [Act.put, List.setIfInBounds_toArray, List.set_cons_zero, List.set_cons_succ])
                      refine wpAnyH_take (i := 3) (oi := ⟨some 68, _, _, _, _, _⟩) (v := ?_) rfl (by kernel_rfl) (by kernel_rfl) (by kernel_rfl) (fun _ _ _ h => False.elim h) (Or.inl ⟨by rfl, ?_⟩) (by assumption) ?_
                      rotate_left
                      · intro w hSw
                        (try dsimp only at hSw)
                        go_simp
                        all_goals with_reducible rfl
                      (try simp only [Act.put, List.setIfInBounds_toArray, List.set_cons_zero, List.set_cons_succ])
                      refine wpAnyH_take (i := 4) (oi := ⟨some 69, _, _, _, _, _⟩) (v := ?_) rfl (by kernel_rfl) (by kernel_rfl) (by kernel_rfl) (fun _ _ _ h => False.elim h) (Or.inl ⟨by rfl, ?_⟩) (by assumption) ?_
                      rotate_left
                      · intro w hSw
                        (try dsimp only at hSw)
                        go_simp
                        all_goals with_reducible rfl
                      (try simp only [Act.put, List.setIfInBounds_toArray, List.set_cons_zero, List.set_cons_succ])
                      refine wpAnyH_take (i := 5) (oi := ⟨some 70, _, _, _, _, _⟩) (v := ?_) rfl (by kernel_rfl) (by kernel_rfl) (by kernel_rfl) (fun _ _ _ h => False.elim h) (Or.inl ⟨by rfl, ?_⟩) (by assumption) ?_
                      rotate_left
                      · intro w hSw
                        (try dsimp only at hSw)
                        go_simp
                        all_goals with_reducible rfl
                      (try simp only [Act.put, List.setIfInBounds_toArray, List.set_cons_zero, List.set_cons_succ])
                      refine wpAnyH_take (i := 6) (oi := ⟨some 71, _, _, _, _, _⟩) (v := ?_) rfl (by kernel_rfl) (by kernel_rfl) (by kernel_rfl) (fun _ _ _ h => False.elim h) (Or.inl ⟨by rfl, ?_⟩) (by assumption) ?_
                      rotate_left
                      · intro w hSw
                        (try dsimp only at hSw)
                        go_simp
                        all_goals with_reducible rfl
                      (try simp only [Act.put, List.setIfInBounds_toArray, List.set_cons_zero, List.set_cons_succ])
                      refine wpAnyH_take (i := 7) (oi := ⟨some 72, _, _, _, _, _⟩) (v := ?_) rfl (by kernel_rfl) (by kernel_rfl) (by kernel_rfl) (fun _ _ _ h => False.elim h) (Or.inl ⟨by rfl, ?_⟩) (by assumption) ?_
                      rotate_left
                      · intro w hSw
                        (try dsimp only at hSw)
                        go_simp
                        all_goals with_reducible rfl
                      (try simp only [Act.put, List.setIfInBounds_toArray, List.set_cons_zero, List.set_cons_succ])
                      refine wpAnyH_done (by kernel_rfl) ?_ _
                      refine NoPanic.normal ?_
                      go_wp2_with fail
                      refine HTW2.out.mono ?_; rintro e w6 ⟨B6, cb6, rfl, hrow6, hB6⟩
                      have HB6 := Lib.hid ((drew_belowB wr).trans hB6)
                      have HO6 := Lib.hid (HO.out.belowB hszr HB6.out)
                      have HROW6 := Lib.hid hrow6
                      have HLT6 := Lib.hid HO.out.lt
                      have hbz6 : P1 ≤ w6.heap.size := Nat.le_trans hszr HB6.out.size
                      clear hrow6 hB6
                      go_wp2_with (at_builtin; refine append_one (W := w6) P1 rfl _ _ 25 53 (.agg #[.int .u16 0, .slice none 0 0]) 2 32 rfl Tryz.underlying25 info_paramH rfl (by omega) (by omega) (.slice AA2 ks.length cc2) ks.length (hcells ks) [.int .u16 u2, .slice B6 body2.length cb6] rfl rfl rfl (by simp [Value.oneCell']) HO6.out.row hbz6 (by omega) ?_; intro v7 w7 ho7 hk7 hb7; have HO7 := Lib.hid ho7; have HK7 := Lib.hid hk7; clear ho7 hk7 hb7)
                      go_roundw
                      case rel =>
                        have := HO6.out.snoc (m := wr.heap.size) (x := ⟨(u2, body2), B6, cb6⟩) HLT6.out hszr hP1w HROW6.out HO7.out HK7.out
                        refine ⟨j + 1, ks ++ [⟨(u2, body2), B6, cb6⟩], by omega, by go_num, ?_⟩
                        rw [HTJ.out, show paAbove (ps.take j ++ [(u2, body2)]) t = paAbove (ps.take j) t ++ [(u2, body2)] by rw [paAbove, List.filter_append, List.filter_cons_of_pos (by simpa using hut2), List.filter_nil]; rfl, ← List.append_assoc]
                        exact this
                      case measure => simp [intOf]; omega
                    · have hd2 : decide (t < u2) = false := decide_eq_false hut2
                      clear hc2 g1 g5 g7 hB
                      go_wp2_with fail
                      refine wp_region_noPanic ?_
                      refine wp_region_held_drew (S := (fun w' => w'.cell? ⟨b2, off2 + j * 2, none⟩ = some (.int .u16 u2) ∧ w'.cell? ⟨b2, off2 + j * 2 + 1, none⟩ = some (.slice B2 body2.length d2) ∧ w'.cell? ⟨P, 0, none⟩ = some (.int .u16 t) ∧ w'.cell? ⟨P, 1, none⟩ = some (.slice B body.length d))) (by kernel_rfl) ?_ (fun hHeld => ?_)
                      · ((try dsimp only); refine ⟨?_, ?_, ?_, ?_⟩ <;> (first | assumption | (go_keep; done)))
                      refine wpAnyH_take (i := 0) (oi := ⟨some 65, _, _, _, _, _⟩) (v := ?_) rfl (by kernel_rfl) (by kernel_rfl) (by kernel_rfl) (fun _ _ _ h => False.elim h) (Or.inl ⟨by rfl, ?_⟩) (by assumption) ?_
                      rotate_left
                      · intro w hSw
                        (try dsimp only at hSw)
                        go_simp
                        all_goals with_reducible rfl
                      (try simp only [Act.put, List.setIfInBounds_toArray, List.set_cons_zero, List.set_cons_succ])
                      refine wpAnyH_take (i := 1) (oi := ⟨some 66, _, _, _, _, _⟩) (v := ?_) rfl (by kernel_rfl) (by kernel_rfl) (by kernel_rfl) (fun _ _ _ h => False.elim h) (Or.inl ⟨by rfl, ?_⟩) (by assumption) ?_
                      rotate_left
                      · intro w hSw
                        (try dsimp only at hSw)
                        go_simp
                        all_goals with_reducible rfl
                      (try simp only [Act.put, List.setIfInBounds_toArray, List.set_cons_zero, List.set_cons_succ])
                      refine wpAnyH_take (i := 2) (oi := ⟨some 67, _, _, _, _, _⟩) (v := ?_) rfl (by kernel_rfl) (by kernel_rfl) (by kernel_rfl) (fun _ _ _ h => False.elim h) (Or.inl ⟨by rfl, ?_⟩) (by assumption) ?_
                      rotate_left
                      · intro w hSw
                        (try dsimp only at hSw)
                        go_simp
                        all_goals with_reducible rfl
                      (try simp only [Act.put, List.setIfInBounds_toArray, List.set_cons_zero, List.set_cons_succ])
                      refine wpAnyH_take (i := 3) (oi := ⟨some 68, _, _, _, _, _⟩) (v := ?_) rfl (by kernel_rfl) (by kernel_rfl) (by kernel_rfl) (fun _ _ _ h => False.elim h) (Or.inl ⟨by rfl, ?_⟩) (by assumption) ?_
                      rotate_left
                      · intro w hSw
                        (try dsimp only at hSw)
                        go_simp
                        all_goals with_reducible rfl
                      (try simp only [Act.put, List.setIfInBounds_toArray, List.set_cons_zero, List.set_cons_succ])
                      refine wpAnyH_take (i := 4) (oi := ⟨some 69, _, _, _, _, _⟩) (v := ?_) rfl (by kernel_rfl) (by kernel_rfl) (by kernel_rfl) (fun _ _ _ h => False.elim h) (Or.inl ⟨by rfl, ?_⟩) (by assumption) ?_
                      rotate_left
                      · intro w hSw
                        (try dsimp only at hSw)
                        go_simp
                        all_goals with_reducible rfl
                      (try simp only [Act.put, List.setIfInBounds_toArray, List.set_cons_zero, List.set_cons_succ])
                      refine wpAnyH_take (i := 5) (oi := ⟨some 70, _, _, _, _, _⟩) (v := ?_) rfl (by kernel_rfl) (by kernel_rfl) (by kernel_rfl) (fun _ _ _ h => False.elim h) (Or.inl ⟨by rfl, ?_⟩) (by assumption) ?_
                      rotate_left
                      · intro w hSw
                        (try dsimp only at hSw)
                        go_simp
                        all_goals with_reducible rfl
                      (try simp only [Act.put, List.setIfInBounds_toArray, List.set_cons_zero, List.set_cons_succ])
                      refine wpAnyH_take (i := 6) (oi := ⟨some 71, _, _, _, _, _⟩) (v := ?_) rfl (by kernel_rfl) (by kernel_rfl) (by kernel_rfl) (fun _ _ _ h => False.elim h) (Or.inl ⟨by rfl, ?_⟩) (by assumption) ?_
                      rotate_left
                      · intro w hSw
                        (try dsimp only at hSw)
                        go_simp
                        all_goals with_reducible rfl
                      (try simp only [Act.put, List.setIfInBounds_toArray, List.set_cons_zero, List.set_cons_succ])
                      refine wpAnyH_take (i := 7) (oi := ⟨some 72, _, _, _, _, _⟩) (v := ?_) rfl (by kernel_rfl) (by kernel_rfl) (by kernel_rfl) (fun _ _ _ h => False.elim h) (Or.inl ⟨by rfl, ?_⟩) (by assumption) ?_
                      rotate_left
                      · intro w hSw
                        (try dsimp only at hSw)
                        go_simp
                        all_goals with_reducible rfl
                      (try simp only [Act.put, List.setIfInBounds_toArray, List.set_cons_zero, List.set_cons_succ])
                      refine wpAnyH_done (by kernel_rfl) ?_ _
                      refine NoPanic.normal ?_
                      go_wp2_with fail
                      go_roundw
                      case rel =>
                        refine ⟨j + 1, ks, by omega, by go_num, ?_⟩
                        rw [HTJ.out, show paAbove (ps.take j ++ [(u2, body2)]) t = paAbove (ps.take j) t by rw [paAbove, List.filter_append, List.filter_cons_of_neg (by simpa using hut2), List.filter_nil, List.append_nil]; rfl]
                        exact HO.out.belowB hszr (drew_belowB wr)
                      case measure => simp [intOf]; omega
                  · obtain rfl : j = n := by omega
                    have htk : ps.take j = ps := List.take_of_length_le (by rw [HL.out]; exact Nat.le_refl _)
                    have ho := HO.out
                    rw [htk, List.append_assoc] at ho
                    have hlen := ho.len
                    obtain ⟨A2, c2, e2, hown⟩ := ho.psOwn
                    injection e2 with e21 e2n e22
                    subst e21; subst e22
                    clear e2n
                    have hlen2 : ks.length = (withL ps (t, body)).length := hlen
                    have hown2 : PsOwn w.heap.size wr (.slice AA2 (withL ps (t, body)).length cc2) (withL ps (t, body)) (hcells ks) := by
                      rw [← hlen2]; exact PsOwn.lower hown hwP1
                    have hBf : Below w.heap.size w wr := HB.out.trans (ho.below.mono hwP1)
                    have HOWN := Lib.hid hown2
                    have HBF := Lib.hid hBf
                    have HLEN := Lib.hid hlen2
                    clear htk ho hlen hown hB hlen2 HO hown2 hBf hszr
                    go_wp2_with fail
                    go_ret2
                    refine .inr ⟨AA2, cc2, _, HE.out, by rw [← HLEN.out]; rfl, HOWN.out, HBF.out⟩
            · obtain rfl : n = k := by omega
              have hend : ps.take n = paBelow ps t := (below_take HLO.out (fun j p hj hp => absurd (List.getElem?_eq_some_iff.1 hp).1 (by have := HL.out; omega))).symm
              have HEND := Lib.hid hend
              have htwp := rtwin_any t B body.length d body wr.drew ((HRD1.out.below (by rw [HP1.out]; exact hB)).below (drew_belowB wr)) hmd HZ.out
              have HTWP := Lib.hid htwp
              clear hend htwp hB
              go_wp2_with fail
              refine wp_region_noPanic ?_
              refine wp_region_held_drew (S := (fun w' => w'.cell? ⟨P, 0, none⟩ = some (.int .u16 t) ∧ w'.cell? ⟨P, 1, none⟩ = some (.slice B body.length d))) (by kernel_rfl) ?_ (fun hHeld => ?_)
              · ((try dsimp only); refine ⟨?_, ?_⟩ <;> (first | assumption | (go_keep; done)))
              refine wpAnyH_take (i := 0) (oi := ⟨some 30, _, _, _, _, _⟩) (v := ?_) rfl (by kernel_rfl) (by kernel_rfl) (by kernel_rfl) (fun _ _ _ h => False.elim h) (Or.inl ⟨by rfl, ?_⟩) (by assumption) ?_
              rotate_left
              · intro w hSw
                (try dsimp only at hSw)
                go_simp
                all_goals with_reducible rfl
              (try simp only [Act.put, List.setIfInBounds_toArray, List.set_cons_zero, List.set_cons_succ])
              refine wpAnyH_take (i := 1) (oi := ⟨some 31, _, _, _, _, _⟩) (v := ?_) rfl (by kernel_rfl) (by kernel_rfl) (by kernel_rfl) (fun _ _ _ h => False.elim h) (Or.inl ⟨by rfl, ?_⟩) (by assumption) ?_
              rotate_left
              · intro w hSw
                (try dsimp only at hSw)
                go_simp
                all_goals with_reducible rfl
              (try simp only [Act.put, List.setIfInBounds_toArray, List.set_cons_zero, List.set_cons_succ])
              refine wpAnyH_take (i := 2) (oi := ⟨some 32, _, _, _, _, _⟩) (v := ?_) rfl (by kernel_rfl) (by kernel_rfl) (by kernel_rfl) (fun _ _ _ h => False.elim h) (Or.inl ⟨by rfl, ?_⟩) (by assumption) ?_
              rotate_left
              · intro w hSw
                (try dsimp only at hSw)
                go_simp
                all_goals with_reducible rfl
              (try simp only [Act.put, List.setIfInBounds_toArray, List.set_cons_zero, List.set_cons_succ])
              refine wpAnyH_take (i := 3) (oi := ⟨some 33, _, _, _, _, _⟩) (v := ?_) rfl (by kernel_rfl) (by kernel_rfl) (by kernel_rfl) (fun _ _ _ h => False.elim h) (Or.inl ⟨by rfl, ?_⟩) (by assumption) ?_
              rotate_left
              · intro w hSw
                (try dsimp only at hSw)
                go_simp
                all_goals with_reducible rfl
              (try simp only [Act.put, List.setIfInBounds_toArray, List.set_cons_zero, List.set_cons_succ])
              refine wpAnyH_take (i := 4) (oi := ⟨some 34, _, _, _, _, _⟩) (v := ?_) rfl (by kernel_rfl) (by kernel_rfl) (by kernel_rfl) (fun _ _ _ h => False.elim h) (Or.inl ⟨by rfl, ?_⟩) (by assumption) ?_
              rotate_left
              · intro w hSw
                (try dsimp only at hSw)
                go_simp
                all_goals with_reducible rfl
              (try simp only [Act.put, List.setIfInBounds_toArray, List.set_cons_zero, List.set_cons_succ])
              refine wpAnyH_take (i := 5) (oi := ⟨some 35, _, _, _, _, _⟩) (v := undef) rfl (by kernel_rfl) (by kernel_rfl) (by kernel_rfl) (fun _ _ _ h => False.elim h) (Or.inr ⟨by rfl, rfl⟩) (by assumption) ?_
              (try simp only [Act.put, List.setIfInBounds_toArray, List.set_cons_zero, List.set_cons_succ])
              refine wpAnyH_take (i := 6) (oi := ⟨some 36, _, _, _, _, _⟩) (v := undef) rfl (by kernel_rfl) (by kernel_rfl) (by kernel_rfl) (fun _ _ _ h => False.elim h) (Or.inr ⟨by rfl, rfl⟩) (by assumption) ?_
              (try simp only [Act.put, List.setIfInBounds_toArray, List.set_cons_zero, List.set_cons_succ])
              refine wpAnyH_take (i := 7) (oi := ⟨some 37, _, _, _, _, _⟩) (v := undef) rfl (by kernel_rfl) (by kernel_rfl) (by kernel_rfl) (fun _ _ _ h => False.elim h) (Or.inr ⟨by rfl, rfl⟩) (by assumption) ?_
              (try simp only [Act.put, List.setIfInBounds_toArray, List.set_cons_zero, List.set_cons_succ])
              refine wpAnyH_take (i := 8) (oi := ⟨some 38, _, _, _, _, _⟩) (v := undef) rfl (by kernel_rfl) (by kernel_rfl) (by kernel_rfl) (fun _ _ _ h => False.elim h) (Or.inr ⟨by rfl, rfl⟩) (by assumption) ?_
              (try simp only [Act.put, List.setIfInBounds_toArray, List.set_cons_zero, List.set_cons_succ])
              refine wpAnyH_take (i := 9) (oi := ⟨some 39, _, _, _, _, _⟩) (v := undef) rfl (by kernel_rfl) (by kernel_rfl) (by kernel_rfl) (fun _ _ _ h => False.elim h) (Or.inr ⟨by rfl, rfl⟩) (by assumption) ?_
              (try simp only [Act.put, List.setIfInBounds_toArray, List.set_cons_zero, List.set_cons_succ])
              refine wpAnyH_take (i := 10) (oi := ⟨some 40, _, _, _, _, _⟩) (v := undef) rfl (by kernel_rfl) (by kernel_rfl) (by kernel_rfl) (fun _ _ _ h => False.elim h) (Or.inr ⟨by rfl, rfl⟩) (by assumption) ?_
              (try simp only [Act.put, List.setIfInBounds_toArray, List.set_cons_zero, List.set_cons_succ])
              refine wpAnyH_take (i := 11) (oi := ⟨some 41, _, _, _, _, _⟩) (v := undef) rfl (by kernel_rfl) (by kernel_rfl) (by kernel_rfl) (fun _ _ _ h => False.elim h) (Or.inr ⟨by rfl, rfl⟩) (by assumption) ?_
              (try simp only [Act.put, List.setIfInBounds_toArray, List.set_cons_zero, List.set_cons_succ])
              refine wpAnyH_take (i := 12) (oi := ⟨some 42, _, _, _, _, _⟩) (v := undef) rfl (by kernel_rfl) (by kernel_rfl) (by kernel_rfl) (fun _ _ _ h => False.elim h) (Or.inr ⟨by rfl, rfl⟩) (by assumption) ?_
              (try simp only [Act.put, List.setIfInBounds_toArray, List.set_cons_zero, List.set_cons_succ])
              refine wpAnyH_take (i := 13) (oi := ⟨some 43, _, _, _, _, _⟩) (v := ?_) rfl (by kernel_rfl) (by kernel_rfl) (by kernel_rfl) (fun _ _ _ h => False.elim h) (Or.inl ⟨by rfl, ?_⟩) (by assumption) ?_
              rotate_left
              · intro w hSw
                (try dsimp only at hSw)
                go_simp
                all_goals with_reducible rfl
              (try simp only [Act.put, List.setIfInBounds_toArray, List.set_cons_zero, List.set_cons_succ])
              refine wpAnyH_done (by kernel_rfl) ?_ _
              refine NoPanic.normal ?_
              obtain ⟨WW, hWW⟩ : ∃ WW, wr.drew = WW := ⟨_, rfl⟩
              have HOW := Lib.hid (HOO.out.belowB hszr (drew_belowB wr))
              have hszW : P1 ≤ wr.drew.heap.size := hszr
              rw [hWW] at HOW hszW HTWP ⊢
              have e0 : WW.cell? ⟨P, 0, none⟩ = some (.int .u16 t) := by rw [← hWW]; exact c0
              have e1 : WW.cell? ⟨P, 1, none⟩ = some (.slice B body.length d) := by rw [← hWW]; exact c1
              clear hWW HOO c0 c1 hszr HB13 HB13' HB12 HMAY d0 d1
              go_wp2_with fail
              refine HTWP.out.mono ?_; rintro e w4 ⟨B4, cb4, rfl, hrow4, hB4⟩
              have HO4 := Lib.hid (HOW.out.belowB hszW hB4)
              have HROW4 := Lib.hid hrow4
              have HLT4 := Lib.hid HOW.out.lt
              have hbz4 : P1 ≤ w4.heap.size := Nat.le_trans hszW hB4.size
              clear hrow4 hB4 HTWP
              go_wp2_with (at_builtin; refine append_one (W := w4) P1 rfl _ _ 25 53 (.agg #[.int .u16 0, .slice none 0 0]) 2 32 rfl Tryz.underlying25 info_paramH rfl (by omega) (by omega) (.slice AA hs.length cc) hs.length (hcells hs) [.int .u16 t, .slice B4 body.length cb4] rfl rfl rfl (by simp [Value.oneCell']) HO4.out.row hbz4 (by omega) ?_; intro v5 w5 ho5 hk5 hb5; have HO5 := Lib.hid ho5; have HK5 := Lib.hid hk5; clear ho5 hk5 hb5)
              have hO5 := HO4.out.snoc (m := WW.heap.size) (x := ⟨(t, body), B4, cb4⟩) HLT4.out hszW hP1w (by exact HROW4.out) HO5.out HK5.out
              have HOT5 := Lib.hid hO5
              have HK0 := Lib.hid HEND.out
              clear hO5 HO5 HK5 HO4 HROW4 HLT4 HOW
              go_loopw [8, 10] (fun v i wr => ∃ (j : Nat) (ks : List Hd), j ≤ n ∧ i = .int .i64 j ∧ OutsAt P1 w1 wr v ks (paBelow ps t ++ [(t, body)] ++ paAbove (ps.take j) t)) (fun _ i _ => n - (intOf i).toNat)
              case atStart =>
                refine ⟨0, hs ++ [⟨(t, body), B4, cb4⟩], Nat.zero_le _, rfl, ?_⟩
                have := HOT5.out
                rw [HEND.out] at this
                simpa [paAbove] using this
              case round =>
                obtain ⟨j, ks, hj, rfl, ho⟩ := hrel
                obtain ⟨AA2, cc2, rfl, -, -, -⟩ := own_slice ho.row
                have hB := ho.below
                have HO := Lib.hid ho
                have j0 : (0 : Int) ≤ (j : Int) := by omega
                have jadd : IntKind.i64.wrap ((j : Int) + 1) = (j : Int) + 1 := IntWalk.i64_in _ (by omega)
                have hszr : P1 ≤ wr.heap.size := by rw [← HP1.out]; exact hB.size
                have c0 : wr.cell? ⟨P, 0, none⟩ = some (.int .u16 t) := (hB.cell (p := ⟨P, 0, none⟩) hPP1).trans p0
                have c1 : wr.cell? ⟨P, 1, none⟩ = some (.slice B body.length d) := (hB.cell (p := ⟨P, 1, none⟩) hPP1).trans p1
                clear ho
                by_cases hjn : j < n
                · obtain ⟨b2, off2, hA2, hb2, hc2⟩ := (HPS1.out.below (by rw [HP1.out]; exact hB)).row (by omega)
                  (first | subst hA2 | (simp only [Option.some.injEq, Addr.mk.injEq, and_true] at hA2; obtain ⟨hA3, hA4⟩ := hA2; have hA5 := hA3.symm; have hA6 := hA4.symm; clear hA3 hA4; subst hA5; subst hA6))
                  obtain ⟨u2, body2, B2, m2, d2, g1, g2, g3, g4, g5, g6, g7⟩ := hc2 j hjn
                  obtain rfl : body2.length = m2 := g5.len
                  have j1 : (j : Int) < (n : Int) := by omega
                  have HTJ := Lib.hid (take_snocP g1)
                  have g3' : wr.cell? ⟨b2, off2 + j * 2, none⟩ = some (.int .u16 u2) := g3
                  by_cases hut2 : t < u2
                  · have htw2 := rtwin_any u2 B2 body2.length d2 body2 (wr.drew) (g5.below (drew_belowB wr)) g6 g7
                    have HTW2 := Lib.hid htw2
                    have hlen2 : ks.length ≤ n + 1 + n := by
                      have h1 := HO.out.len
                      have h2 : (paAbove (ps.take j) t).length ≤ j := Nat.le_trans (List.length_filter_le _ _) (List.length_take_le _ _)
                      have h3 : (paBelow ps t).length ≤ n := by have := below_le ps t; have := HL.out; omega
                      simp only [List.length_append, List.length_singleton] at h1
                      omega
                    have hd2 : decide (t < u2) = true := decide_eq_true hut2
                    clear hc2 g1 g5 g7 htw2 hB
                    go_wp2_with fail
                    refine wp_region_noPanic ?_
                    refine wp_region_held_drew (S := (fun w' => w'.cell? ⟨b2, off2 + j * 2, none⟩ = some (.int .u16 u2) ∧ w'.cell? ⟨b2, off2 + j * 2 + 1, none⟩ = some (.slice B2 body2.length d2) ∧ w'.cell? ⟨P, 0, none⟩ = some (.int .u16 t) ∧ w'.cell? ⟨P, 1, none⟩ = some (.slice B body.length d))) (by kernel_rfl) ?_ (fun hHeld => ?_)
                    · ((try dsimp only); refine ⟨?_, ?_, ?_, ?_⟩ <;> (first | assumption | (go_keep; done)))
                    refine wpAnyH_take (i := 0) (oi := ⟨some 65, _, _, _, _, _⟩) (v := ?_) rfl (by kernel_rfl) (by kernel_rfl) (by kernel_rfl) (fun _ _ _ h => False.elim h) (Or.inl ⟨by rfl, ?_⟩) (by assumption) ?_
                    rotate_left
                    · intro w hSw
                      (try dsimp only at hSw)
                      go_simp
                      all_goals with_reducible rfl
                    (try simp only [Act.put, List.setIfInBounds_toArray, List.set_cons_zero, List.set_cons_succ])
                    refine wpAnyH_take (i := 1) (oi := ⟨some 66, _, _, _, _, _⟩) (v := ?_) rfl (by kernel_rfl) (by kernel_rfl) (by kernel_rfl) (fun _ _ _ h => False.elim h) (Or.inl ⟨by rfl, ?_⟩) (by assumption) ?_
                    rotate_left
                    · intro w hSw
                      (try dsimp only at hSw)
                      go_simp
                      all_goals with_reducible rfl
                    (try simp only [Act.put, List.setIfInBounds_toArray, List.set_cons_zero, List.set_cons_succ])
                    refine wpAnyH_take (i := 2) (oi := ⟨some 67, _, _, _, _, _⟩) (v := ?_) rfl (by kernel_rfl) (by kernel_rfl) (by kernel_rfl) (fun _ _ _ h => False.elim h) (Or.inl ⟨by rfl, ?_⟩) (by assumption) ?_
                    rotate_left
                    · intro w hSw
                      (try dsimp only at hSw)
                      go_simp
                      all_goals with_reducible rfl
                    (try simp only [Act.put, List.setIfInBounds_toArray, List.set_cons_zero, List.set_cons_succ])
                    refine wpAnyH_take (i := 3) (oi := ⟨some 68, _, _, _, _, _⟩) (v := ?_) rfl (by kernel_rfl) (by kernel_rfl) (by kernel_rfl) (fun _ _ _ h => False.elim h) (Or.inl ⟨by rfl, ?_⟩) (by assumption) ?_
                    rotate_left
                    · intro w hSw
                      (try dsimp only at hSw)
                      go_simp
                      all_goals with_reducible rfl
                    (try simp only [Act.put, List.setIfInBounds_toArray, List.set_cons_zero, List.set_cons_succ])
                    refine wpAnyH_take (i := 4) (oi := ⟨some 69, _, _, _, _, _⟩) (v := ?_) rfl (by kernel_rfl) (by kernel_rfl) (by kernel_rfl) (fun _ _ _ h => False.elim h) (Or.inl ⟨by rfl, ?_⟩) (by assumption) ?_
                    rotate_left
                    · intro w hSw
                      (try dsimp only at hSw)
                      go_simp
                      all_goals with_reducible rfl
                    (try simp only [Act.put, List.setIfInBounds_toArray, List.set_cons_zero, List.set_cons_succ])
                    refine wpAnyH_take (i := 5) (oi := ⟨some 70, _, _, _, _, _⟩) (v := ?_) rfl (by kernel_rfl) (by kernel_rfl) (by kernel_rfl) (fun _ _ _ h => False.elim h) (Or.inl ⟨by rfl, ?_⟩) (by assumption) ?_
                    rotate_left
                    · intro w hSw
                      (try dsimp only at hSw)
                      go_simp
                      all_goals with_reducible rfl
                    (try simp only [Act.put, List.setIfInBounds_toArray, List.set_cons_zero, List.set_cons_succ])
                    refine wpAnyH_take (i := 6) (oi := ⟨some 71, _, _, _, _, _⟩) (v := ?_) rfl (by kernel_rfl) (by kernel_rfl) (by kernel_rfl) (fun _ _ _ h => False.elim h) (Or.inl ⟨by rfl, ?_⟩) (by assumption) ?_
                    rotate_left
                    · intro w hSw
                      (try dsimp only at hSw)
                      go_simp
                      all_goals with_reducible rfl
                    (try simp only [Act.put, List.setIfInBounds_toArray, List.set_cons_zero, List.set_cons_succ])
                    refine wpAnyH_take (i := 7) (oi := ⟨some 72, _, _, _, _, _⟩) (v := ?_) rfl (by kernel_rfl) (by kernel_rfl) (by kernel_rfl) (fun _ _ _ h => False.elim h) (Or.inl ⟨by rfl, ?_⟩) (by assumption) ?_
                    rotate_left
                    · intro w hSw
                      (try dsimp only at hSw)
                      go_simp
                      all_goals with_reducible rfl
                    (try simp only [Act.put, List.setIfInBounds_toArray, List.set_cons_zero, List.set_cons_succ])
                    refine wpAnyH_done (by kernel_rfl) ?_ _
                    refine NoPanic.normal ?_
                    go_wp2_with fail
                    refine HTW2.out.mono ?_; rintro e w6 ⟨B6, cb6, rfl, hrow6, hB6⟩
                    have HB6 := Lib.hid ((drew_belowB wr).trans hB6)
                    have HO6 := Lib.hid (HO.out.belowB hszr HB6.out)
                    have HROW6 := Lib.hid hrow6
                    have HLT6 := Lib.hid HO.out.lt
                    have hbz6 : P1 ≤ w6.heap.size := Nat.le_trans hszr HB6.out.size
                    clear hrow6 hB6
                    go_wp2_with (at_builtin; refine append_one (W := w6) P1 rfl _ _ 25 53 (.agg #[.int .u16 0, .slice none 0 0]) 2 32 rfl Tryz.underlying25 info_paramH rfl (by omega) (by omega) (.slice AA2 ks.length cc2) ks.length (hcells ks) [.int .u16 u2, .slice B6 body2.length cb6] rfl rfl rfl (by simp [Value.oneCell']) HO6.out.row hbz6 (by omega) ?_; intro v7 w7 ho7 hk7 hb7; have HO7 := Lib.hid ho7; have HK7 := Lib.hid hk7; clear ho7 hk7 hb7)
                    go_roundw
                    case rel =>
                      have := HO6.out.snoc (m := wr.heap.size) (x := ⟨(u2, body2), B6, cb6⟩) HLT6.out hszr hP1w HROW6.out HO7.out HK7.out
                      refine ⟨j + 1, ks ++ [⟨(u2, body2), B6, cb6⟩], by omega, by go_num, ?_⟩
                      rw [HTJ.out, show paAbove (ps.take j ++ [(u2, body2)]) t = paAbove (ps.take j) t ++ [(u2, body2)] by rw [paAbove, List.filter_append, List.filter_cons_of_pos (by simpa using hut2), List.filter_nil]; rfl, ← List.append_assoc]
                      exact this
                    case measure => simp [intOf]; omega
                  · have hd2 : decide (t < u2) = false := decide_eq_false hut2
                    clear hc2 g1 g5 g7 hB
                    go_wp2_with fail
                    refine wp_region_noPanic ?_
                    refine wp_region_held_drew (S := (fun w' => w'.cell? ⟨b2, off2 + j * 2, none⟩ = some (.int .u16 u2) ∧ w'.cell? ⟨b2, off2 + j * 2 + 1, none⟩ = some (.slice B2 body2.length d2) ∧ w'.cell? ⟨P, 0, none⟩ = some (.int .u16 t) ∧ w'.cell? ⟨P, 1, none⟩ = some (.slice B body.length d))) (by kernel_rfl) ?_ (fun hHeld => ?_)
                    · ((try dsimp only); refine ⟨?_, ?_, ?_, ?_⟩ <;> (first | assumption | (go_keep; done)))
                    refine wpAnyH_take (i := 0) (oi := ⟨some 65, _, _, _, _, _⟩) (v := ?_) rfl (by kernel_rfl) (by kernel_rfl) (by kernel_rfl) (fun _ _ _ h => False.elim h) (Or.inl ⟨by rfl, ?_⟩) (by assumption) ?_
                    rotate_left
                    · intro w hSw
                      (try dsimp only at hSw)
                      go_simp
                      all_goals with_reducible rfl
                    (try simp only [Act.put, List.setIfInBounds_toArray, List.set_cons_zero, List.set_cons_succ])
                    refine wpAnyH_take (i := 1) (oi := ⟨some 66, _, _, _, _, _⟩) (v := ?_) rfl (by kernel_rfl) (by kernel_rfl) (by kernel_rfl) (fun _ _ _ h => False.elim h) (Or.inl ⟨by rfl, ?_⟩) (by assumption) ?_
                    rotate_left
                    · intro w hSw
                      (try dsimp only at hSw)
                      go_simp
                      all_goals with_reducible rfl
                    (try simp only [Act.put, List.setIfInBounds_toArray, List.set_cons_zero, List.set_cons_succ])
                    refine wpAnyH_take (i := 2) (oi := ⟨some 67, _, _, _, _, _⟩) (v := ?_) rfl (by kernel_rfl) (by kernel_rfl) (by kernel_rfl) (fun _ _ _ h => False.elim h) (Or.inl ⟨by rfl, ?_⟩) (by assumption) ?_
                    rotate_left
                    · intro w hSw
                      (try dsimp only at hSw)
                      go_simp
                      all_goals with_reducible rfl
                    (try simp only [Act.put, List.setIfInBounds_toArray, List.set_cons_zero, List.set_cons_succ])
                    refine wpAnyH_take (i := 3) (oi := ⟨some 68, _, _, _, _, _⟩) (v := ?_) rfl (by kernel_rfl) (by kernel_rfl) (by kernel_rfl) (fun _ _ _ h => False.elim h) (Or.inl ⟨by rfl, ?_⟩) (by assumption) ?_
                    rotate_left
                    · intro w hSw
                      (try dsimp only at hSw)
                      go_simp
                      all_goals with_reducible rfl
                    (try simp only [Act.put, List.setIfInBounds_toArray, List.set_cons_zero, List.set_cons_succ])
                    refine wpAnyH_take (i := 4) (oi := ⟨some 69, _, _, _, _, _⟩) (v := ?_) rfl (by kernel_rfl) (by kernel_rfl) (by kernel_rfl) (fun _ _ _ h => False.elim h) (Or.inl ⟨by rfl, ?_⟩) (by assumption) ?_
                    rotate_left
                    · intro w hSw
                      (try dsimp only at hSw)
                      go_simp
                      all_goals with_reducible rfl
                    (try simp only [Act.put, List.setIfInBounds_toArray, List.set_cons_zero, List.set_cons_succ])
                    refine wpAnyH_take (i := 5) (oi := ⟨some 70, _, _, _, _, _⟩) (v := ?_) rfl (by kernel_rfl) (by kernel_rfl) (by kernel_rfl) (fun _ _ _ h => False.elim h) (Or.inl ⟨by rfl, ?_⟩) (by assumption) ?_
                    rotate_left
                    · intro w hSw
                      (try dsimp only at hSw)
                      go_simp
                      all_goals with_reducible rfl
                    (try simp only [Act.put, List.setIfInBounds_toArray, List.set_cons_zero, List.set_cons_succ])
                    refine wpAnyH_take (i := 6) (oi := ⟨some 71, _, _, _, _, _⟩) (v := ?_) rfl (by kernel_rfl) (by kernel_rfl) (by kernel_rfl) (fun _ _ _ h => False.elim h) (Or.inl ⟨by rfl, ?_⟩) (by assumption) ?_
                    rotate_left
                    · intro w hSw
                      (try dsimp only at hSw)
                      go_simp
                      all_goals with_reducible rfl
                    (try simp only [Act.put, List.setIfInBounds_toArray, List.set_cons_zero, List.set_cons_succ])
                    refine wpAnyH_take (i := 7) (oi := ⟨some 72, _, _, _, _, _⟩) (v := ?_) rfl (by kernel_rfl) (by kernel_rfl) (by kernel_rfl) (fun _ _ _ h => False.elim h) (Or.inl ⟨by rfl, ?_⟩) (by assumption) ?_
                    rotate_left
                    · intro w hSw
                      (try dsimp only at hSw)
                      go_simp
                      all_goals with_reducible rfl
                    (try simp only [Act.put, List.setIfInBounds_toArray, List.set_cons_zero, List.set_cons_succ])
                    refine wpAnyH_done (by kernel_rfl) ?_ _
                    refine NoPanic.normal ?_
                    go_wp2_with fail
                    go_roundw
                    case rel =>
                      refine ⟨j + 1, ks, by omega, by go_num, ?_⟩
                      rw [HTJ.out, show paAbove (ps.take j ++ [(u2, body2)]) t = paAbove (ps.take j) t by rw [paAbove, List.filter_append, List.filter_cons_of_neg (by simpa using hut2), List.filter_nil, List.append_nil]; rfl]
                      exact HO.out.belowB hszr (drew_belowB wr)
                    case measure => simp [intOf]; omega
                · obtain rfl : j = n := by omega
                  have htk : ps.take j = ps := List.take_of_length_le (by rw [HL.out]; exact Nat.le_refl _)
                  have ho := HO.out
                  rw [htk, List.append_assoc] at ho
                  have hlen := ho.len
                  obtain ⟨A2, c2, e2, hown⟩ := ho.psOwn
                  injection e2 with e21 e2n e22
                  subst e21; subst e22
                  clear e2n
                  have hlen2 : ks.length = (withL ps (t, body)).length := hlen
                  have hown2 : PsOwn w.heap.size wr (.slice AA2 (withL ps (t, body)).length cc2) (withL ps (t, body)) (hcells ks) := by
                    rw [← hlen2]; exact PsOwn.lower hown hwP1
                  have hBf : Below w.heap.size w wr := HB.out.trans (ho.below.mono hwP1)
                  have HOWN := Lib.hid hown2
                  have HBF := Lib.hid hBf
                  have HLEN := Lib.hid hlen2
                  clear htk ho hlen hown hB hlen2 HO hown2 hBf hszr
                  go_wp2_with fail
                  go_ret2
                  refine .inr ⟨AA2, cc2, _, HE.out, by rw [← HLEN.out]; rfl, HOWN.out, HBF.out⟩
      · have hE : withE ps t = 8 := by
          rcases HC.out with ⟨_, h | h⟩ | ⟨_, _, _, hE⟩ | ⟨_, _, h, _⟩ | ⟨_, _, h, _⟩
          · rw [HR.out] at h; cases h
          · exact absurd h HT0.out
          · exact hE
          · rw [hf] at h; cases h
          · rw [hf] at h; cases h
        have HE := Lib.hid hE
        have HBF := Lib.hid (HB.out.trans ((HB12.out.trans (hB3.mono HB12.out.size)).mono HB.out.size))
        clear hE hf hB3
        go_wp2_with fail
        go_ret2
        exact .inl ⟨by rw [HE.out]; omega, by rw [HE.out]; rfl, HBF.out⟩
end Go.Proofs.YtlcnjdpfijgcdaaGreatDoor
