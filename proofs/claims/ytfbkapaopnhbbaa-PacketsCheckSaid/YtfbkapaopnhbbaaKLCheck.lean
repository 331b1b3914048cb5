/- The law PacketsCheck: the walk. -/
import Derived.Test.YtfbkapaopnhbbaaKLive
import Derived.Test.YtfbkapaopnhbbaaKTwin
import Derived.Test.YtfbkapaopnhbbaaOpen
namespace Go.Proofs.Ytfbkapaopnhbbaa
open Go.RowKit
set_option linter.unusedSimpArgs false
set_option linter.unusedVariables false

/-- A row whose first bytes are known. -/
def RowOf (w : World) (g n : Nat) (y : List Int) : Prop := y.length = n ∧ ∃ cs, Blk w g 5 cs ∧ cs.take n = y.map (Value.int .u8)
theorem RowOf.cell {w : World} {g n : Nat} {y : List Int} (h : RowOf w g n y) {j : Nat} (hj : j < n) : w.cell? ⟨g, j, none⟩ = some (.int .u8 (y[j]?.getD 0)) := by
  obtain ⟨hl, cs, hb, ht⟩ := h
  rw [hb.cell, show cs[j]? = (cs.take n)[j]? by simp [List.getElem?_take, hj], ht]
  simp [show j < y.length by omega]
theorem RowOf.free {w : World} {g n : Nat} {y : List Int} (h : RowOf w g n y) (j : Nat) : w.frozen? ⟨g, j, none⟩ = false := by
  obtain ⟨_, cs, hb, _⟩ := h; exact hb.free j
theorem RowOf.put {w : World} {g n : Nat} {y : List Int} (h : RowOf w g n y) (j : Nat) (x : Int) : RowOf (w.setCell ⟨g, j, none⟩ (.int .u8 x)) g n (y.set j x) := by
  obtain ⟨hl, cs, hb, ht⟩ := h
  exact ⟨by simpa using hl, _, hb.put j _, by rw [List.take_set, ht, List.map_set]⟩
theorem RowOf.drew {w : World} {g n : Nat} {y : List Int} (h : RowOf w g n y) : RowOf w.drew g n y := h
theorem RowOf.rd {w : World} {g n : Nat} {y : List Int} (h : RowOf w g n y) (hy : isB y) (hn : n ≤ 140737488351232) : Rd w .u8 (some ⟨g, 0, none⟩) n y := by
  obtain ⟨hl, cs, hb, ht⟩ := h
  exact rd_of_in hb ht hy hl hn
theorem isB_set {l : List Int} (h : isB l) {i : Nat} {x : Int} (hx : 0 ≤ x ∧ x ≤ 255) : isB (l.set i x) := fun y hy => by
  rcases List.mem_or_eq_of_mem_set hy with hy | rfl
  · exact h y hy
  · exact hx
theorem isB_at {l : List Int} (h : isB l) (i : Nat) : 0 ≤ l[i]?.getD 0 ∧ l[i]?.getD 0 ≤ 255 := by
  rcases Nat.lt_or_ge i l.length with hi | hi
  · rw [List.getElem?_eq_getElem hi]; exact h _ (List.getElem_mem hi)
  · rw [List.getElem?_eq_none hi]; simp

set_option maxRecDepth 100000 in
set_option maxHeartbeats 4000000 in
theorem check_at (A0 : Option Addr) (n0 c0 : Nat) (x0 : List Int) (a b : Int) (w : World) (r0 : Rd w .u8 A0 n0 x0) (l0 : n0 ≤ c0) (ha : 0 ≤ a ∧ a ≤ 65535) (hb : 0 ≤ b ∧ b ≤ 65535) :
    Calls Try.prog 5 #[.slice A0 n0 c0, .agg #[.int .u16 a, .int .u16 b]] w fun e w' => e = .returned (.bool true) ∧ Below w.heap.size w w' := by
  have hl := r0.len
  have hbig := r0.big
  have hby := isB_rd r0
  have hB0 := new_below w (.cells #[.int .u16 a, .int .u16 b] 41)
  by_cases hrange : 5000 < n0 ∨ n0 < 2
  · have HB0 := Lib.hid hB0
    clear hB0
    by_cases h5 : 5000 < n0
    · have h5' : (5000 : Int) < (n0 : Int) := by omega
      go_enter Try.func5, Try.ntmps5
      go_wp2_with fail
      refine (lives_true _).mono ?_; rintro e w4 ⟨rfl, hB4⟩
      have HB4 := Lib.hid (HB0.out.trans (hB4.mono HB0.out.size))
      clear hB4
      go_wp2_with fail
      go_ret
      exact ⟨rfl, HB4.out⟩
    · have h5' : ¬ ((5000 : Int) < (n0 : Int)) := by omega
      have h2' : (n0 : Int) < 2 := by omega
      go_enter Try.func5, Try.ntmps5
      go_wp2_with fail
      refine (lives_true _).mono ?_; rintro e w4 ⟨rfl, hB4⟩
      have HB4 := Lib.hid (HB0.out.trans (hB4.mono HB0.out.size))
      clear hB4
      go_wp2_with fail
      go_ret
      exact ⟨rfl, HB4.out⟩
  · have h5' : ¬ ((5000 : Int) < (n0 : Int)) := by omega
    have h2' : ¬ ((n0 : Int) < 2) := by omega
    have hn5 : n0 ≤ 5000 := by omega
    have hn2 : 2 ≤ n0 := by omega
    obtain ⟨w1, hw1⟩ : ∃ w1, w.alloc (.cells #[.int .u16 a, .int .u16 b] 41) = w1 := ⟨_, rfl⟩
    have hbx : Blk w1 w.heap.size 41 [.int .u16 a, .int .u16 b] := by rw [← hw1]; exact Blk.new w 41 _
    rw [hw1] at hB0
    have hr1 := r0.below hB0
    have hck := check_any A0 n0 c0 x0 w1 hr1 l0
    have hqr := chk_range hby
    have htw := fun W (hW : Below w1.heap.size w1 W) => twin_any A0 n0 c0 x0 W (hr1.below hW) l0 (by omega)
    obtain ⟨q, hq⟩ : ∃ q, chk x0 = q := ⟨_, rfl⟩
    rw [hq] at hck hqr
    have HB0 := Lib.hid hB0
    have HBX := Lib.hid hbx
    have HCK := Lib.hid hck
    have HTW := Lib.hid htw
    have HBY := Lib.hid hby
    have HQ := Lib.hid hq
    have HL := Lib.hid hl
    clear hB0 hbx hr1 hck htw hby hq hrange r0
    rcases Nat.mod_two_eq_zero_or_one n0 with hp | hp
    · have hm : (n0 : Int).tmod 2 = 0 := by rw [Int.tmod_eq_emod_of_nonneg (by omega)]; omega
      go_enter Try.func5, Try.ntmps5
      go_wp2_with fail
      refine HCK.out.mono ?_; rintro e w2 ⟨rfl, rfl⟩
      go_wp2_with fail
      refine (HTW.out _ (Below.refl _ _)).mono ?_
      rintro e w3 ⟨g, cap, rfl, hc3, hm3, hg3, hlt3, ho3, hB3⟩
      rw [HL.out] at hc3 ho3 ⊢
      have HO3 := Lib.hid ho3
      have HB3 := Lib.hid hB3
      clear ho3 hB3
      have hw8 : IntKind.u8.wrap (q / 256) = q / 256 := IntWalk.u8_in _ (by omega)
      have hlit : Rd (w3.alloc (.cells #[.int .u8 (q / 256), .int .u8 (q % 256)] 5)) .u8 (some ⟨w3.heap.size, 0, none⟩) 2 [q / 256, q % 256] := rd_lit w3 [q / 256, q % 256] 2 (by intro x hx; simp at hx; omega) rfl (by omega)
      have HLIT := Lib.hid hlit
      have HO3A := Lib.hid (HO3.out.alloc (.cells #[.int .u8 (q / 256), .int .u8 (q % 256)] 5))
      clear hlit
      go_wp2_with (at_builtin; refine append_bytes w1.heap.size rfl _ _ rfl (.slice (some ⟨g, 0, none⟩) n0 cap) n0 x0 rfl (some ⟨w3.heap.size, 0, none⟩) 2 2 [q / 256, q % 256] rfl HLIT.out (fun e => by cases e) HO3A.out (by have := HB3.out.size; simp; omega) (by omega) ?_; intro v1 w4 ho4 hg4 hat4; obtain ⟨g4, c4, rfl, hc4, hgg4, hlt4⟩ := own_some ho4.out (by omega))
      have hrd4 : Rd w4 .u8 (some ⟨g4, 0, none⟩) (n0 + 2) (x0 ++ [q / 256, q % 256]) := rd_own ho4.out (by
        intro x hx
        rcases List.mem_append.1 hx with hx | hx
        · exact HBY.out x hx
        · simp at hx; omega) (by omega)
      have hch := check_any (some ⟨g4, 0, none⟩) (n0 + 2) c4 (x0 ++ [q / 256, q % 256]) w4 hrd4 hc4
      rw [chk_own x0 HBY.out (by rw [HL.out]; exact hp) (q / 256) (q % 256) (by rw [HQ.out]; omega) (by omega) (by omega)] at hch
      have HCH := Lib.hid hch
      have HB4 := Lib.hid (grown_below (v := .slice (some ⟨g, 0, none⟩) n0 cap) (HB3.out.alloc HB3.out.size _) hg4 HO3A.out (Nat.le_refl _))
      clear hch hrd4 ho4 hg4 hat4
      refine HCH.out.mono ?_; rintro e w5 ⟨rfl, rfl⟩
      go_wp2_with fail
      refine (HTW.out _ HB4.out).mono ?_
      rintro e w6 ⟨g6, cap6, rfl, hc6, hm6, hg6, hlt6, ho6, hB6⟩
      rw [HL.out] at hc6 ho6 ⊢
      have hrow : RowOf w6 g6 n0 x0 := by
        rcases ho6.2 with ⟨e, _⟩ | ⟨g', cap', cur, e, _, hh, _, _, _, ht⟩
        · injection e with e; cases e
        · injection e with e1 _ e2
          injection e1 with e1
          injection e1 with e1
          subst e1
          exact ⟨HL.out, cur.toList, hh, by simpa using ht⟩
      have HB6 := Lib.hid (HB4.out.trans (hB6.mono HB4.out.size))
      have HROW := Lib.hid hrow
      have hA := (HB6.out.cell (p := ⟨w.heap.size, 0, none⟩) HBX.out.lt).trans (HBX.out.cell 0)
      have hBb := (HB6.out.cell (p := ⟨w.heap.size, 1, none⟩) HBX.out.lt).trans (HBX.out.cell 1)
      simp only [List.getElem?_cons_zero, List.getElem?_cons_succ] at hA hBb
      obtain ⟨N2, hN2⟩ : ∃ N2, n0 / 2 = N2 := ⟨_, rfl⟩
      have hdiv : (n0 : Int).tdiv 2 = (N2 : Int) := by rw [Int.tdiv_eq_ediv_of_nonneg (by omega)]; omega
      obtain ⟨a', rfl⟩ := Int.eq_ofNat_of_zero_le ha.1
      obtain ⟨b', rfl⟩ := Int.eq_ofNat_of_zero_le hb.1
      simp only [Int.ofNat_eq_natCast] at *
      obtain ⟨I, hI⟩ : ∃ I, a' % N2 = I := ⟨_, rfl⟩
      obtain ⟨J, hJ⟩ : ∃ J, b' % N2 = J := ⟨_, rfl⟩
      have hma : (a' : Int).tmod (N2 : Int) = (I : Int) := by rw [Int.tmod_eq_emod_of_nonneg (by omega), ← hI]; exact (Int.natCast_emod a' N2).symm
      have hmb : (b' : Int).tmod (N2 : Int) = (J : Int) := by rw [Int.tmod_eq_emod_of_nonneg (by omega), ← hJ]; exact (Int.natCast_emod b' N2).symm
      have hIl : I < N2 := by rw [← hI]; exact Nat.mod_lt _ (by omega)
      have hJl : J < N2 := by rw [← hJ]; exact Nat.mod_lt _ (by omega)
      have hN0 : ¬ (N2 = 0) := by omega
      have hwd : IntKind.i64.wrap (N2 : Int) = (N2 : Int) := IntWalk.i64_in _ (by omega)
      have hwI : IntKind.i64.wrap (I : Int) = (I : Int) := IntWalk.i64_in _ (by omega)
      have hwJ : IntKind.i64.wrap (J : Int) = (J : Int) := IntWalk.i64_in _ (by omega)
      have hw2I : IntKind.i64.wrap (2 * (I : Int)) = ((2 * I : Nat) : Int) := by rw [IntWalk.i64_in _ (by omega)]; omega
      have hw2J : IntKind.i64.wrap (2 * (J : Int)) = ((2 * J : Nat) : Int) := by rw [IntWalk.i64_in _ (by omega)]; omega
      obtain ⟨i, hi⟩ : ∃ i, 2 * I = i := ⟨_, rfl⟩
      obtain ⟨k, hk⟩ : ∃ k, 2 * J = k := ⟨_, rfl⟩
      rw [hi] at hw2I
      rw [hk] at hw2J
      clear hB6 ho6 hrow hc4 hgg4 hlt4
      go_wp2_with fail
      have hil : i < n0 := by omega
      have hkl : k < n0 := by omega
      have hi2 : i + 1 < n0 := by omega
      have hk2 : k + 1 < n0 := by omega
      have hoi : odd_ i = false := by unfold odd_; rw [show i % 2 = 0 by omega]; rfl
      have hok : odd_ k = false := by unfold odd_; rw [show k % 2 = 0 by omega]; rfl
      have hoi1 : odd_ (i + 1) = true := by unfold odd_; rw [show (i + 1) % 2 = 1 by omega]; rfl
      have hok1 : odd_ (k + 1) = true := by unfold odd_; rw [show (k + 1) % 2 = 1 by omega]; rfl
      have HOI := Lib.hid hoi
      have HOK := Lib.hid hok
      have HOI1 := Lib.hid hoi1
      have HOK1 := Lib.hid hok1
      have ci := HROW.out.cell hil
      have ck := HROW.out.cell hkl
      have fi := HROW.out.free i
      have fk := HROW.out.free k
      have p0 : (0 : Int) ≤ (i : Int) := by omega
      have p1 : (i : Int) < (n0 : Int) := by omega
      have p2 : (0 : Int) ≤ (k : Int) := by omega
      have p3 : (k : Int) < (n0 : Int) := by omega
      obtain ⟨xi, hxi⟩ : ∃ xi, x0[i]?.getD 0 = xi := ⟨_, rfl⟩
      obtain ⟨xk, hxk⟩ : ∃ xk, x0[k]?.getD 0 = xk := ⟨_, rfl⟩
      rw [hxi] at ci
      rw [hxk] at ck
      have HXI := Lib.hid hxi
      have HXK := Lib.hid hxk
      have hG1 : Below w1.heap.size w1 w6.drew := HB6.out.trans ((drew_below w6).mono HB6.out.size)
      have HG1 := Lib.hid hG1
      clear hoi hok hoi1 hok1 hxi hxk hG1 hdiv hma hmb hwd hwI hwJ hw2I hw2J hA hBb hN2 hI hJ hIl hJl hN0
      by_cases hik : i = k
      · subst hik
        obtain rfl : xi = xk := HXI.out.symm.trans HXK.out
        go_region_with (fail)
        all_goals
          have hrow7 : RowOf (((w6.setCell ⟨g6, i, none⟩ (.int .u8 xi)).setCell ⟨g6, i, none⟩ (.int .u8 xi)).drew) g6 n0 ((x0.set i xi).set i xi) := (HROW.out.put i xi).put i xi
          have hB7 : Below w1.heap.size w1 (((w6.setCell ⟨g6, i, none⟩ (.int .u8 xi)).setCell ⟨g6, i, none⟩ (.int .u8 xi)).drew) := below_keeps HB6.out (((Keeps.set1 w6 ⟨g6, i, none⟩ (.int .u8 xi)).trans (Keeps.set1 _ ⟨g6, i, none⟩ (.int .u8 xi))).drew) (Nat.le_refl _) (fun j hj => by subst hj; exact Nat.le_trans HB4.out.size hg6)
          have hy1 : hefts false ((x0.set i xi).set i xi) = hefts false x0 := hefts_swap x0 i i xi xi (by omega) (by omega) (HOI.out.trans HOK.out.symm) HXI.out HXK.out false
          have hyb : isB ((x0.set i xi).set i xi) := isB_set (isB_set HBY.out (by rw [← HXK.out]; exact isB_at HBY.out _)) (by rw [← HXI.out]; exact isB_at HBY.out _)
          obtain ⟨y1, hyy⟩ : ∃ y1, (x0.set i xi).set i xi = y1 := ⟨_, rfl⟩
          rw [hyy] at hrow7 hy1 hyb
          generalize (((w6.setCell ⟨g6, i, none⟩ (.int .u8 xi)).setCell ⟨g6, i, none⟩ (.int .u8 xi)).drew) = w7 at *
          have ci1 := hrow7.cell (j := i + 1) (by omega)
          have ck1 := hrow7.cell (j := i + 1) (by omega)
          have fi1 := hrow7.free (i + 1)
          have fk1 := hrow7.free (i + 1)
          have hyl : y1.length = n0 := hrow7.1
          obtain ⟨zi, hzi⟩ : ∃ z, y1[i + 1]?.getD 0 = z := ⟨_, rfl⟩
          obtain ⟨zk, hzk⟩ : ∃ z, y1[i + 1]?.getD 0 = z := ⟨_, rfl⟩
          rw [hzi] at ci1
          rw [hzk] at ck1
          obtain rfl : zi = zk := hzi.symm.trans hzk
          have hy2 : hefts false ((y1.set (i + 1) zi).set (i + 1) zi) = hefts false x0 := (hefts_swap y1 (i + 1) (i + 1) zi zi (by omega) (by omega) (HOI1.out.trans HOK1.out.symm) hzi hzk false).trans hy1
          have hyb2 : isB ((y1.set (i + 1) zi).set (i + 1) zi) := isB_set (isB_set hyb (by rw [← hzk]; exact isB_at hyb _)) (by rw [← hzi]; exact isB_at hyb _)
          have hchk : chk ((y1.set (i + 1) zi).set (i + 1) zi) = q := (chk_of_hefts hyb2 HBY.out hy2).trans HQ.out
          have HCHK := Lib.hid hchk
          have HYB2 := Lib.hid hyb2
          have HROW7 := Lib.hid hrow7
          have HB7 := Lib.hid hB7
          clear hy1 hyb hyy hy2 hyb2 hchk hzi hzk hrow7 hB7 ci ck fi fk
          obtain ⟨i1, hi1⟩ : ∃ i1, i + 1 = i1 := ⟨_, rfl⟩
          have hwi1 : IntKind.i64.wrap ((i : Int) + 1) = (i1 : Int) := by rw [IntWalk.i64_in _ (by omega)]; omega
          rw [hi1] at ci1 fi1 HCHK HYB2 ck1 fk1
          have u0 : (0 : Int) ≤ (i1 : Int) := by omega
          have u1 : (i1 : Int) < (n0 : Int) := by omega
          clear hi1 hyl
          go_wp2_with fail
          go_region_with (fail)
          all_goals
            have hrow8 : RowOf (((w7.setCell ⟨g6, i1, none⟩ (.int .u8 zi)).setCell ⟨g6, i1, none⟩ (.int .u8 zi)).drew) g6 n0 ((y1.set i1 zi).set i1 zi) := (HROW7.out.put i1 zi).put i1 zi
            have hB8 : Below w1.heap.size w1 (((w7.setCell ⟨g6, i1, none⟩ (.int .u8 zi)).setCell ⟨g6, i1, none⟩ (.int .u8 zi)).drew) := below_keeps HB7.out (((Keeps.set1 w7 ⟨g6, i1, none⟩ (.int .u8 zi)).trans (Keeps.set1 _ ⟨g6, i1, none⟩ (.int .u8 zi))).drew) (Nat.le_refl _) (fun j hj => by subst hj; exact Nat.le_trans HB4.out.size hg6)
            have hch := check_any (some ⟨g6, 0, none⟩) n0 cap6 _ _ (hrow8.rd HYB2.out (by omega)) (by omega)
            rw [HCHK.out] at hch
            have HCHF := Lib.hid hch
            have HB8 := Lib.hid (HB0.out.trans (hB8.mono HB0.out.size))
            clear hch hB8 hrow8 ci1 ck1 fi1 fk1
            generalize (((w7.setCell ⟨g6, i1, none⟩ (.int .u8 zi)).setCell ⟨g6, i1, none⟩ (.int .u8 zi)).drew) = w8 at *
            go_wp2_with fail
            refine HCHF.out.mono ?_; rintro e w9 ⟨rfl, rfl⟩
            go_wp2_with fail
            refine (lives_true _).mono ?_; rintro e w10 ⟨rfl, hB10⟩
            have HB10 := Lib.hid (HB8.out.trans (hB10.mono HB8.out.size))
            clear hB10
            go_wp2_with fail
            go_ret
            exact ⟨rfl, HB10.out⟩
      · have hki : ¬ (k = i) := fun h => hik h.symm
        go_region_with (fail)
        all_goals
          have hrow7 : RowOf (((w6.setCell ⟨g6, i, none⟩ (.int .u8 xk)).setCell ⟨g6, k, none⟩ (.int .u8 xi)).drew) g6 n0 ((x0.set i xk).set k xi) := (HROW.out.put i xk).put k xi
          have hB7 : Below w1.heap.size w1 (((w6.setCell ⟨g6, i, none⟩ (.int .u8 xk)).setCell ⟨g6, k, none⟩ (.int .u8 xi)).drew) := below_keeps HB6.out (((Keeps.set1 w6 ⟨g6, i, none⟩ (.int .u8 xk)).trans (Keeps.set1 _ ⟨g6, k, none⟩ (.int .u8 xi))).drew) (Nat.le_refl _) (fun j hj => by subst hj; exact Nat.le_trans HB4.out.size hg6)
          have hy1 : hefts false ((x0.set i xk).set k xi) = hefts false x0 := hefts_swap x0 i k xi xk (by omega) (by omega) (HOI.out.trans HOK.out.symm) HXI.out HXK.out false
          have hyb : isB ((x0.set i xk).set k xi) := isB_set (isB_set HBY.out (by rw [← HXK.out]; exact isB_at HBY.out _)) (by rw [← HXI.out]; exact isB_at HBY.out _)
          obtain ⟨y1, hyy⟩ : ∃ y1, (x0.set i xk).set k xi = y1 := ⟨_, rfl⟩
          rw [hyy] at hrow7 hy1 hyb
          generalize (((w6.setCell ⟨g6, i, none⟩ (.int .u8 xk)).setCell ⟨g6, k, none⟩ (.int .u8 xi)).drew) = w7 at *
          have ci1 := hrow7.cell (j := i + 1) (by omega)
          have ck1 := hrow7.cell (j := k + 1) (by omega)
          have fi1 := hrow7.free (i + 1)
          have fk1 := hrow7.free (k + 1)
          have hyl : y1.length = n0 := hrow7.1
          obtain ⟨zi, hzi⟩ : ∃ z, y1[i + 1]?.getD 0 = z := ⟨_, rfl⟩
          obtain ⟨zk, hzk⟩ : ∃ z, y1[k + 1]?.getD 0 = z := ⟨_, rfl⟩
          rw [hzi] at ci1
          rw [hzk] at ck1
          have hy2 : hefts false ((y1.set (i + 1) zk).set (k + 1) zi) = hefts false x0 := (hefts_swap y1 (i + 1) (k + 1) zi zk (by omega) (by omega) (HOI1.out.trans HOK1.out.symm) hzi hzk false).trans hy1
          have hyb2 : isB ((y1.set (i + 1) zk).set (k + 1) zi) := isB_set (isB_set hyb (by rw [← hzk]; exact isB_at hyb _)) (by rw [← hzi]; exact isB_at hyb _)
          have hchk : chk ((y1.set (i + 1) zk).set (k + 1) zi) = q := (chk_of_hefts hyb2 HBY.out hy2).trans HQ.out
          have HCHK := Lib.hid hchk
          have HYB2 := Lib.hid hyb2
          have HROW7 := Lib.hid hrow7
          have HB7 := Lib.hid hB7
          clear hy1 hyb hyy hy2 hyb2 hchk hzi hzk hrow7 hB7 ci ck fi fk
          obtain ⟨i1, hi1⟩ : ∃ i1, i + 1 = i1 := ⟨_, rfl⟩
          obtain ⟨k1, hk1⟩ : ∃ k1, k + 1 = k1 := ⟨_, rfl⟩
          have hwi1 : IntKind.i64.wrap ((i : Int) + 1) = (i1 : Int) := by rw [IntWalk.i64_in _ (by omega)]; omega
          have hwk1 : IntKind.i64.wrap ((k : Int) + 1) = (k1 : Int) := by rw [IntWalk.i64_in _ (by omega)]; omega
          rw [hi1] at ci1 fi1 HCHK HYB2
          rw [hk1] at ck1 fk1 HCHK HYB2
          have u0 : (0 : Int) ≤ (i1 : Int) := by omega
          have u1 : (i1 : Int) < (n0 : Int) := by omega
          have u2 : (0 : Int) ≤ (k1 : Int) := by omega
          have u3 : (k1 : Int) < (n0 : Int) := by omega
          have v1 : ¬ (i1 = k1) := by omega
          have v2 : ¬ (k1 = i1) := by omega
          clear hi1 hk1 hyl
          go_wp2_with fail
          go_region_with (fail)
          all_goals
            have hrow8 : RowOf (((w7.setCell ⟨g6, i1, none⟩ (.int .u8 zk)).setCell ⟨g6, k1, none⟩ (.int .u8 zi)).drew) g6 n0 ((y1.set i1 zk).set k1 zi) := (HROW7.out.put i1 zk).put k1 zi
            have hB8 : Below w1.heap.size w1 (((w7.setCell ⟨g6, i1, none⟩ (.int .u8 zk)).setCell ⟨g6, k1, none⟩ (.int .u8 zi)).drew) := below_keeps HB7.out (((Keeps.set1 w7 ⟨g6, i1, none⟩ (.int .u8 zk)).trans (Keeps.set1 _ ⟨g6, k1, none⟩ (.int .u8 zi))).drew) (Nat.le_refl _) (fun j hj => by subst hj; exact Nat.le_trans HB4.out.size hg6)
            have hch := check_any (some ⟨g6, 0, none⟩) n0 cap6 _ _ (hrow8.rd HYB2.out (by omega)) (by omega)
            rw [HCHK.out] at hch
            have HCHF := Lib.hid hch
            have HB8 := Lib.hid (HB0.out.trans (hB8.mono HB0.out.size))
            clear hch hB8 hrow8 ci1 ck1 fi1 fk1
            generalize (((w7.setCell ⟨g6, i1, none⟩ (.int .u8 zk)).setCell ⟨g6, k1, none⟩ (.int .u8 zi)).drew) = w8 at *
            go_wp2_with fail
            refine HCHF.out.mono ?_; rintro e w9 ⟨rfl, rfl⟩
            go_wp2_with fail
            refine (lives_true _).mono ?_; rintro e w10 ⟨rfl, hB10⟩
            have HB10 := Lib.hid (HB8.out.trans (hB10.mono HB8.out.size))
            clear hB10
            go_wp2_with fail
            go_ret
            exact ⟨rfl, HB10.out⟩
    · have hm : (n0 : Int).tmod 2 = 1 := by rw [Int.tmod_eq_emod_of_nonneg (by omega)]; omega
      go_enter Try.func5, Try.ntmps5
      go_wp2_with fail
      refine HCK.out.mono ?_; rintro e w2 ⟨rfl, rfl⟩
      go_wp2_with fail
      refine (HTW.out _ (Below.refl _ _)).mono ?_
      rintro e w3 ⟨g, cap, rfl, hc3, hm3, hg3, hlt3, ho3, hB3⟩
      rw [HL.out] at hc3 ho3 ⊢
      have HO3 := Lib.hid ho3
      have HB3 := Lib.hid hB3
      clear ho3 hB3
      go_wp2_with (at_builtin; refine append_int (W := w3) w1.heap.size rfl _ _ 29 5 .u8 1 rfl Try.underlying29 info_u8n (by omega) (.slice (some ⟨g, 0, none⟩) n0 cap) n0 x0 0 rfl rfl HO3.out HB3.out.size (by omega) ?_; intro v1 w4 ho4 hk4 hb4; obtain ⟨g4, c4, rfl, hc4, hg4, hlt4⟩ := own_some ho4 (by omega))
      have hrd4 : Rd w4 .u8 (some ⟨g4, 0, none⟩) (n0 + 1) (x0 ++ [0]) := rd_own ho4 (by
        intro x hx
        rcases List.mem_append.1 hx with hx | hx
        · exact HBY.out x hx
        · simp at hx; omega) (by omega)
      have hch := check_any (some ⟨g4, 0, none⟩) (n0 + 1) c4 (x0 ++ [0]) w4 hrd4 hc4
      rw [chk_odd _ HBY.out, HQ.out] at hch
      have HCH := Lib.hid hch
      have HB4 := Lib.hid (HB0.out.trans ((below_keeps HB3.out hk4 (Nat.le_refl _) (fun i hi => (own_base HO3.out i hi).1)).mono HB0.out.size))
      clear hch hrd4 ho4 hk4 hb4
      refine HCH.out.mono ?_; rintro e w5 ⟨rfl, rfl⟩
      go_wp2_with fail
      refine (lives_true _).mono ?_; rintro e w6 ⟨rfl, hB6⟩
      have HB6 := Lib.hid (HB4.out.trans (hB6.mono HB4.out.size))
      clear hB6
      go_wp2_with fail
      go_ret
      exact ⟨rfl, HB6.out⟩

theorem packetsCheck_walk {H : Type} {enc : TypeId × Value → H} {base : Nat} {d1 : DataW H} {p1 : List MemPlace} (A0 : Option Addr) (n0 c0 : Nat) (x0 : List Int) (v1 : Value) (w : World) (r0 : Rd w .u8 A0 n0 x0) (l0 : n0 ≤ c0)
    (o1 : Value.okWide Try.prog w .any base 41 v1) (k1 : DataW.Trod enc Try.prog w 0 (fun _ => true) true 41 v1 d1 p1) (z1 : (d1.weights Try.prog 41).all (· ≤ reachBytes) = true) :
    Calls Try.prog 5 #[.slice A0 n0 c0, v1] w fun e w' => e = .returned (.bool true) ∧ Below w.heap.size w w' := by
  obtain ⟨cs1, rfl, hs1⟩ := okWide_agg (.inr ⟨_, _, Try.underlying41⟩) o1
  obtain ⟨f1, hf1⟩ := k1
  obtain ⟨l, hl, hll, hlw⟩ := open_array_ints Try.underlying41 Try.underlying28 (by kernel_rfl) (by kernel_rfl) hf1
  obtain ⟨cs1⟩ := cs1
  simp only [Value.cells] at hl
  subst hl
  rcases l with _ | ⟨a, _ | ⟨b, _ | ⟨c, l⟩⟩⟩
  · simp at hll
  · simp at hll
  · exact check_at A0 n0 c0 x0 a b w r0 l0 (wf_bounds_u16 (hlw a (by simp))) (wf_bounds_u16 (hlw b (by simp)))
  · simp at hll
end Go.Proofs.Ytfbkapaopnhbbaa
