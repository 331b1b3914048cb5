/- The walk over SHA-256: bytes are taken in. -/
import Derived.Test.YtadpgodmkodgdaaXRGuidesRoom12
namespace Go.Proofs.Ytadpgodmkodgdaa
open Go.RowKit
set_option linter.unusedSimpArgs false
set_option linter.unusedVariables false

/-- A run in memory: what it took so far, and how many it tells. -/
structure RunH (w : World) (G H : Nat) (d : List Int) (tot : Int) : Prop where
  ex : ∃ buf : List Int, Blk w G 138 (runC H buf (d.length % 64) tot) ∧ buf.length = 64 ∧ Bytes buf ∧ buf.take (d.length % 64) = d.drop (64 * (d.length / 64))
  st : Blk w H 134 ((stN d (d.length / 64)).map (Value.int .u32))
theorem RunH.keep {M : Nat → Prop} {w w' : World} {G H : Nat} {d : List Int} {tot : Int} (h : RunH w G H d tot) (hk : Keeps M w w') (h1 : ¬ M G) (h2 : ¬ M H) : RunH w' G H d tot := by
  obtain ⟨⟨buf, a, b, c, e⟩, s⟩ := h
  exact ⟨⟨buf, a.keep hk h1, b, c, e⟩, s.keep hk h2⟩
/-- Slices of bytes, none of them in block G. -/
structure PartsX (w : World) (G : Nat) (P : Option Addr) (n : Nat) (ps : List (List Int)) : Prop where
  len : ps.length = n
  big : n ≤ 140737488351232
  row : 0 < n → ∃ b off, P = some ⟨b, off, none⟩ ∧ b < w.heap.size ∧ b ≠ G ∧ ∀ j p, ps[j]? = some p → ∃ A c, w.cell? ⟨b, off + j, none⟩ = some (.slice A p.length c) ∧ p.length ≤ c ∧ RdX w G A p.length p
theorem PartsX.keep {w w' : World} {G : Nat} {P : Option Addr} {n : Nat} {ps : List (List Int)} (h : PartsX w G P n ps) (hk : Keeps (· = G) w w') : PartsX w' G P n ps := by
  refine ⟨h.len, h.big, fun hn => ?_⟩
  obtain ⟨b, off, e, hlt, hne, hc⟩ := h.row hn
  refine ⟨b, off, e, Nat.lt_of_lt_of_le hlt hk.size, hne, fun j p hj => ?_⟩
  obtain ⟨A, c, h1, h2, h3⟩ := hc j p hj
  exact ⟨A, c, (hk.cell (p := ⟨b, off + j, none⟩) hlt hne).trans h1, h2, h3.keep hk⟩
theorem cutX (G : Nat) (b off n c k : Nat) (h : k ≤ n) (hc : n ≤ c) : ∃ A', (∀ W : World, (Instr.slice 49 (.slice (some ⟨b, off, none⟩) n c) (some (.int .i64 (k : Int))) none none).run Try.prog W = .ok (.slice A' (n - k) (c - k)) W) ∧
    (∀ (W : World) (xs : List Int), RdX W G (some ⟨b, off, none⟩) n xs → RdX W G A' (n - k) (xs.drop k)) := by
  refine ⟨if c = k then (some ⟨b, off, none⟩) else (some ⟨b, off, none⟩ : Option Addr).map (·.add (k * 1)), fun W => ?_, fun W xs hr => ?_⟩
  · rw [run_slice_l W 49 _ n c (by kernel_rfl) .i64 (k : Int) (by omega) (by omega), show (sizeOf (Try.prog.elem 49)).run Try.prog W = .ok 1 W from by kernel_rfl]
    simp only [Result.andThen, sliced, Int.toNat_natCast]
  · have ha : (⟨b, off, none⟩ : Addr).add (k * 1) = ⟨b, off + k, none⟩ := by unfold Addr.add; split <;> simp_all
    have hw : ∀ x ∈ xs.drop k, (Lit.int .u8 x).wf = true := fun x hx => hr.rd.wf x (List.mem_of_mem_drop hx)
    have hlen : (xs.drop k).length = n - k := by rw [List.length_drop, hr.rd.len]
    have hbig := hr.rd.big
    by_cases h0 : 0 < n - k
    · rw [if_neg (by omega)]
      obtain ⟨b', off', e, hb, hcell⟩ := hr.rd.row (by omega)
      obtain ⟨b2, off2, e2, hne⟩ := hr.ne (by omega)
      injection e with e; injection e with e3 e4; subst e3; subst e4
      injection e2 with e2; injection e2 with e3 e4; subst e3; subst e4
      refine ⟨⟨hlen, by omega, hw, fun _ => ⟨b, off + k, congrArg some ha, hb, fun j hj => ?_⟩⟩, fun _ => ⟨b, off + k, congrArg some ha, hne⟩⟩
      rw [Nat.add_assoc, hcell (k + j) (by omega), List.getElem?_drop]
    · exact ⟨⟨hlen, by omega, hw, fun h => absurd h h0⟩, fun h => absurd h h0⟩
def flatI (ps : List (List Int)) : List Int := ps.flatten
def totI (n : Nat) : Int := ((n % 18446744073709551616 : Nat) : Int)
theorem tot_add (n m : Nat) (hm : m ≤ 140737488351232) : IntKind.u64.wrap (totI n + (m : Int)) = totI (n + m) := by
  simp only [totI, IntKind.wrap, IntKind.bits, IntKind.signed]
  simp
/-- What comes behind so many bytes of a block, and fills it or not. -/
theorem buf_next {d p buf : List Int} {q : Nat} (hb : buf.length = 64) (ht : buf.take (d.length % 64) = d.drop (64 * (d.length / 64))) (hq : q ≤ p.length) (hm : d.length % 64 + q < 64) :
    (laid buf (d.length % 64) (p.take q)).take ((d ++ p.take q).length % 64) = (d ++ p.take q).drop (64 * ((d ++ p.take q).length / 64)) := by
  have hl : (p.take q).length = q := by rw [List.length_take]; omega
  have h1 : (d ++ p.take q).length = d.length + q := by rw [List.length_append, hl]
  have h2 : (d.length + q) % 64 = d.length % 64 + q := by omega
  have h3 : (d.length + q) / 64 = d.length / 64 := by omega
  rw [h1, h2, h3]
  have h4 := laid_take (buf := buf) (c := p.take q) (m := d.length % 64) (by omega)
  rw [hl] at h4
  rw [h4, ht, List.drop_append_of_le_length (by omega)]
theorem buf_full {d p buf : List Int} {q : Nat} (hb : buf.length = 64) (ht : buf.take (d.length % 64) = d.drop (64 * (d.length / 64))) (hq : q ≤ p.length) (hm : d.length % 64 + q = 64) :
    (d ++ p.take q).length % 64 = 0 ∧ (d ++ p.take q).length / 64 = d.length / 64 + 1 ∧ ((d ++ p.take q).drop (64 * (d.length / 64))).take 64 = laid buf (d.length % 64) (p.take q) := by
  have hl : (p.take q).length = q := by rw [List.length_take]; omega
  have h1 : (d ++ p.take q).length = d.length + q := by rw [List.length_append, hl]
  refine ⟨by rw [h1]; omega, by rw [h1]; omega, ?_⟩
  rw [List.drop_append_of_le_length (by omega), ← ht, laid, hl, List.drop_of_length_le (by omega), List.append_nil, List.take_of_length_le (by rw [List.length_append, List.length_take, hl]; omega)]
def slLen : Value → Nat
  | .slice _ n _ => n
  | _ => 0
def TakesAns (G H : Nat) (d : List Int) (ps : List (List Int)) (w : World) (e : Ending) (w' : World) : Prop :=
  ∃ H', e = .returned (.tuple #[]) ∧ RunH w' G H' (d ++ flatI ps) (totI (d ++ flatI ps).length) ∧ (H' = H ∨ w.heap.size ≤ H') ∧ H' ≠ G ∧ Keeps (· = G) w w'
set_option maxRecDepth 100000 in
set_option maxHeartbeats 4000000 in
theorem takes_any (G H n c : Nat) (P : Option Addr) (d : List Int) (ps : List (List Int)) (w : World) (h : RunH w G H d (totI d.length)) (hne : H ≠ G) (hp : PartsX w G P n ps) :
    Calls Try.prog 69 #[.pointer (some ⟨G, 0, none⟩), .slice P n c] w (TakesAns G H d ps w) := by
  have hl := hp.len
  have hbig := hp.big
  have hGl : G < w.heap.size := by obtain ⟨⟨buf, a, _⟩, _⟩ := h; exact a.lt
  have hHl : H < w.heap.size := h.st.lt
  have HH := Lib.hid h
  have HP := Lib.hid hp
  have HNE := Lib.hid hne
  have HL := Lib.hid hl
  have HGl := Lib.hid hGl
  have HHl := Lib.hid hHl
  clear h hp hne hl hGl hHl
  go_enter Try.func69, Try.ntmps69
  go_wp2_with fail
  go_loopw [10] (fun i wr => ∃ j H' : Nat, j ≤ n ∧ i = .int .i64 (j : Int) ∧ RunH wr G H' (d ++ flatI (ps.take j)) (totI (d ++ flatI (ps.take j)).length) ∧ H' ≠ G ∧ (H' = H ∨ w.heap.size ≤ H') ∧ Keeps (· = G) w wr) (fun i _ => n - (intOf i).toNat)
  case atStart => exact ⟨0, H, Nat.zero_le _, rfl, by simpa [flatI] using HH.out, HNE.out, .inl rfl, Keeps.refl _ _⟩
  case round =>
    obtain ⟨j, H', hj, rfl, hR, hne', hor, hk⟩ := hrel
    by_cases hlt : j < n
    · obtain ⟨b, off, rfl, hbl, hbn, hcell⟩ := (HP.out.keep hk).row (by omega)
      obtain ⟨p, hpj⟩ : ∃ p, ps[j]? = some p := ⟨_, List.getElem?_eq_getElem (by have := HL.out; omega)⟩
      obtain ⟨A, cc, h1, h2, h3⟩ := hcell j p hpj
      obtain ⟨d1, hd1⟩ : ∃ d1, d ++ flatI (ps.take j) = d1 := ⟨_, rfl⟩
      have hnext : d ++ flatI (ps.take (j + 1)) = d1 ++ p := by rw [← hd1, List.take_add_one, hpj, flatI, flatI, List.flatten_append, List.append_assoc]; simp
      rw [hd1] at hR
      obtain ⟨⟨buf, hG, hb64, hbb, hbt⟩, hst⟩ := hR
      obtain ⟨k, hkk⟩ : ∃ k, p.length = k := ⟨_, rfl⟩
      rw [hkk] at h1 h2 h3
      have hkb := h3.rd.big
      have hw := tot_add d1.length k hkb
      have ht : wr.cell? ⟨G, 66, none⟩ = some (.int .u64 (totI d1.length)) := (hG.cell 66).trans (runC_t hb64)
      have hf := hG.free 66
      have HKL := Lib.hid hkk
      have i0 : (0 : Int) ≤ (j : Int) := by omega
      have i1 : (j : Int) < (n : Int) := by omega
      generalize hT0 : totI d1.length = T0 at ht hG hw
      generalize hT1 : totI (d1.length + k) = T1 at hw
      have HTT0 := Lib.hid hT0
      have HTT1 := Lib.hid hT1
      have HHN := Lib.hid hnext
      have HLT := Lib.hid hlt
      have HD1 := Lib.hid hd1
      have HOR := Lib.hid hor
      have HGG := Lib.hid hG
      have HB64 := Lib.hid hb64
      have HBB := Lib.hid hbb
      have HBT := Lib.hid hbt
      have HST := Lib.hid hst
      have H3 := Lib.hid h3
      have HCC := Lib.hid h2
      have HNE' := Lib.hid hne'
      have HK := Lib.hid hk
      have HKB := Lib.hid hkb
      have HGL := Lib.hid hG.lt
      have HHL := Lib.hid hst.lt
      clear hT0 hT1 hnext hlt hd1 hor hG hb64 hbb hbt hst h3 h2 hne' hk hkk hpj hcell hj
      go_wp2_with fail
      obtain ⟨w2, hw2⟩ : ∃ W, wr.setCell ⟨G, 66, none⟩ (.int .u64 T1) = W := ⟨_, rfl⟩
      rw [hw2]
      have hk2 : Keeps (· = G) wr w2 := by rw [← hw2]; exact Keeps.set1 wr ⟨G, 66, none⟩ _
      have HG2 : Hid (Blk w2 G 138 (runC H' buf (d1.length % 64) T1)) := Lib.hid (by rw [← hw2, ← runC_set_t HB64.out]; exact HGG.out.put 66 _)
      have HR2 : Hid (RunH w2 G H' d1 T1) := Lib.hid ⟨⟨buf, HG2.out, HB64.out, HBB.out, HBT.out⟩, HST.out.keep hk2 (fun h => HNE'.out h)⟩
      have HX2 := Lib.hid (H3.out.keep hk2)
      have HK2 := Lib.hid (HK.out.trans hk2)
      have HS2 := Lib.hid (show w.heap.size ≤ w2.heap.size from HK2.out.size)
      clear hw2 hk2 HGG HBB HBT HST H3 HG2 ht hf h1 HB64
      go_loopw [5] (fun v wq => ∃ q H2 bc : Nat, ∃ B : Option Addr, q ≤ k ∧ v = .slice B (k - q) bc ∧ k - q ≤ bc ∧ RdX wq G B (k - q) (p.drop q) ∧ RunH wq G H2 (d1 ++ p.take q) T1 ∧ H2 ≠ G ∧ (H2 = H' ∨ w2.heap.size ≤ H2) ∧ Keeps (· = G) w2 wq) (fun v _ => slLen v)
      case atStart => exact ⟨0, H', cc, A, Nat.zero_le _, rfl, HCC.out, by simpa using HX2.out, by simpa using HR2.out, HNE'.out, .inl rfl, Keeps.refl _ _⟩
      case round =>
        obtain ⟨q, H2, bc, B, hq, rfl, hbc, hx, hR, hne2, hor2, hk3⟩ := hrel
        have HQ := Lib.hid hq
        have HNE2 := Lib.hid hne2
        have HOR2 := Lib.hid hor2
        have HK3 := Lib.hid hk3
        by_cases hlt : q < k
        · obtain ⟨r, hr⟩ : ∃ r, k - q = r := ⟨_, rfl⟩
          rw [hr] at hbc hx ⊢
          obtain ⟨g, off2, rfl, hgn⟩ := hx.ne (by omega)
          obtain ⟨d2, hd2⟩ : ∃ d2, d1 ++ p.take q = d2 := ⟨_, rfl⟩
          obtain ⟨p2, hp2⟩ : ∃ p2, p.drop q = p2 := ⟨_, rfl⟩
          rw [hd2] at hR
          rw [hp2] at hx
          obtain ⟨⟨buf2, hG, hb64, hbb, hbt⟩, hst⟩ := hR
          obtain ⟨m, hm⟩ : ∃ m, d2.length % 64 = m := ⟨_, rfl⟩
          have hm64 : m < 64 := by omega
          have hp2l := hx.rd.len
          obtain ⟨v, hv⟩ : ∃ v, min (64 - m) r = v := ⟨_, rfl⟩
          have hv1 : 0 < v ∧ v ≤ r ∧ m + v ≤ 64 := by omega
          obtain ⟨A2, hcut, hrx⟩ := cutX G g off2 r bc v hv1.2.1 hbc
          have hptk : p.take (q + v) = p.take q ++ p2.take v := by rw [← hp2, List.take_add]
          have hd3 : d1 ++ p.take (q + v) = d2 ++ p2.take v := by rw [hptk, ← List.append_assoc, hd2]
          have hpd : p.drop (q + v) = p2.drop v := by rw [← hp2, List.drop_drop]
          have hvl : (p2.take v).length = v := by rw [List.length_take]; omega
          have hlaidl : (laid buf2 m (p2.take v)).length = 64 := by rw [laid_length (by omega)]; exact hb64
          have hlaidb : Bytes (laid buf2 m (p2.take v)) := laid_bytes hbb (fun x hx' => bytes_of_wf hx.rd.wf x (List.mem_of_mem_take hx'))
          have hposr : (0 : Int) < (r : Int) := by omega
          rw [hm] at hG hbt
          have HM64 := Lib.hid hm64
          have HV1 := Lib.hid hv1
          have HRK := Lib.hid hr
          have HBC := Lib.hid hbc
          have HX := Lib.hid hx
          have HG := Lib.hid hG
          have HB64 := Lib.hid hb64
          have HBB := Lib.hid hbb
          have HBT := Lib.hid hbt
          have HST := Lib.hid hst
          have HM := Lib.hid hm
          have HRX := Lib.hid hrx
          have HD3 := Lib.hid hd3
          have HPD := Lib.hid hpd
          have HVV := Lib.hid hv
          have HVL := Lib.hid hvl
          have HPL := Lib.hid hp2l
          have HLL := Lib.hid hlaidl
          have HLB := Lib.hid hlaidb
          have hrr : 0 < r := by omega
          have HRR := Lib.hid hrr
          clear hm64 hv1 hr hbc hx hG hb64 hbb hbt hst hm hrx hd3 hpd hv hvl hp2l hlaidl hlaidb hrr hgn hd2 hp2 hptk hlt hq hne2 hor2 hk3
          go_upto_region 5 with fail
          rename_i K0 hK0
          refine takes_r5 HG.out HB64.out HM64.out HX.out HRR.out ?_
          intro z27 z28 z29 z30 z31 z32 z33 z34 z35 z36 z37 z38 w4 hG4 hk4
          refine hK0 _ _ ?_
          clear hK0 K0
          rw [HVV.out] at hG4 ⊢
          have HX4 := Lib.hid (HRX.out _ _ (HX.out.keep hk4))
          have HST4 := Lib.hid (HST.out.keep hk4 (fun h => HNE2.out h))
          have HK4 := Lib.hid (HK3.out.trans hk4)
          have c65 : w4.cell? ⟨G, 65, none⟩ = some (.int .i64 (m : Int)) := (hG4.cell 65).trans (runC_m HLL.out)
          have f65 := hG4.free 65
          have HG4 := Lib.hid hG4
          clear hG4 hk4 HG HST HK3 HX HRX
          have hwm : IntKind.i64.wrap ((m : Int) + (v : Int)) = ((m + v : Nat) : Int) := by rw [show (m : Int) + (v : Int) = ((m + v : Nat) : Int) by omega]; exact IntWalk.i64_in _ (by have := HV1.out; omega)
          have bm : (0 : Int) ≤ (m : Int) ∧ (0 : Int) ≤ (v : Int) := by omega
          obtain ⟨x, hx⟩ : ∃ x, m + v = x := ⟨_, rfl⟩
          rw [hx] at hwm
          have HXX := Lib.hid hx
          clear hx bm
          go_upto_region 8 with fail
          rename_i K0 hK0
          obtain ⟨w5, hw5⟩ : ∃ W, w4.setCell ⟨G, 65, none⟩ (.int .i64 (x : Int)) = W := ⟨_, rfl⟩
          rw [hw5]
          have hk5 : Keeps (· = G) w4 w5 := by rw [← hw5]; exact Keeps.set1 w4 ⟨G, 65, none⟩ _
          have HG5 : Hid (Blk w5 G 138 (runC H2 (laid buf2 m (p2.take v)) x T1)) := Lib.hid (by rw [← hw5, ← runC_set_m HLL.out]; exact HG4.out.put 65 _)
          have HX5 := Lib.hid (HX4.out.keep hk5)
          have HST5 := Lib.hid (HST4.out.keep hk5 (fun h => HNE2.out h))
          have HK5 := Lib.hid (HK4.out.trans hk5)
          have c65 : w5.cell? ⟨G, 65, none⟩ = some (.int .i64 (x : Int)) := (HG5.out.cell 65).trans (runC_m HLL.out)
          clear hw5 hk5 HX4 HST4 HK4 HG4 f65 hwm
          by_cases hx64 : x = 64
          · subst hx64
            go_upto_region 9 with fail
            rename_i K1 hK1
            refine takes_r9 HG5.out HLL.out HLB.out HST5.out (stN_eight _ _) ?_
            intro y58 y59 y60 y61 y62 y63 y64 y65 y66 y67 H4 w6 hH4 hst6 hb6
            refine hK1 _ _ ?_
            clear hK1 K1
            have HG6 := Lib.hid (HG5.out.below hb6 HG5.out.lt)
            have HX6 := Lib.hid (HX5.out.keep (Keeps.of_below hb6))
            have HST6 := Lib.hid hst6
            have HK6 := Lib.hid (HK5.out.below hb6)
            have HH4 := Lib.hid (show w2.heap.size ≤ H4 from Nat.le_trans HK5.out.size hH4)
            have HNE4 := Lib.hid (show H4 ≠ G by have := HG5.out.lt; omega)
            have f0 := HG6.out.free 0
            have c0 : w6.cell? ⟨G, 0, none⟩ = some (.pointer (some ⟨H2, 0, none⟩)) := HG6.out.cell 0
            have HG7 : Hid (Blk (w6.setCell ⟨G, 0, none⟩ (.pointer (some ⟨H4, 0, none⟩))) G 138 (runC H4 (laid buf2 m (p2.take v)) 64 T1)) := Lib.hid (HG6.out.put 0 _)
            have f65 := HG7.out.free 65
            have c65' : (w6.setCell ⟨G, 0, none⟩ (.pointer (some ⟨H4, 0, none⟩))).cell? ⟨G, 65, none⟩ = some (.int .i64 ((64 : Nat) : Int)) := (HG7.out.cell 65).trans (runC_m HLL.out)
            clear c65 hst6 hb6 hH4 HG5 HX5 HST5 HK5
            go_wp2_with fail
            have hf := buf_full (q := v) (p := p2) HB64.out (by rw [HM.out]; exact HBT.out) (by rw [HPL.out]; exact HV1.out.2.1) (by rw [HM.out]; exact HXX.out)
            rw [HM.out] at hf
            obtain ⟨q1, q2, q3⟩ := hf
            have hst9 : stN (d2 ++ p2.take v) ((d2 ++ p2.take v).length / 64) = afterL (stN d2 (d2.length / 64)) (laid buf2 m (p2.take v)) := by
              rw [q2, stN, q3, stN_append d2 _ _ (by omega)]
            have HG8 : Blk ((w6.setCell ⟨G, 0, none⟩ (.pointer (some ⟨H4, 0, none⟩))).setCell ⟨G, 65, none⟩ (.int .i64 ((0 : Nat) : Int))) G 138 (runC H4 (laid buf2 m (p2.take v)) 0 T1) := by
              have := HG7.out.put 65 (.int .i64 ((0 : Nat) : Int))
              rwa [runC_set_m HLL.out] at this
            have hk8 : Keeps (· = G) w6 ((w6.setCell ⟨G, 0, none⟩ (.pointer (some ⟨H4, 0, none⟩))).setCell ⟨G, 65, none⟩ (.int .i64 ((0 : Nat) : Int))) := (Keeps.setCell (M := fun i => i = G) (Keeps.setCell (M := fun i => i = G) (Keeps.refl _ w6) (.inl rfl) _) (.inl rfl) _)
            go_roundw
            case rel =>
              refine ⟨q + v, H4, bc - v, A2, by have := HV1.out; have := HRK.out; omega, by rw [show k - (q + v) = r - v by have := HRK.out; omega], by have := HBC.out; have := HRK.out; omega, ?_, ?_, HNE4.out, .inr HH4.out, HK6.out.trans hk8⟩
              · rw [show k - (q + v) = r - v by have := HRK.out; omega, HPD.out]; exact HX6.out.keep hk8
              · rw [HD3.out]
                exact ⟨⟨_, by rw [q1]; exact HG8, HLL.out, HLB.out, by rw [q1, List.take_zero, List.drop_of_length_le (by omega)]⟩, by rw [hst9]; exact HST6.out.keep hk8 (fun h => HNE4.out h)⟩
            case measure => simp only [slLen]; have := HV1.out; omega
          · have hxl : x < 64 := by have := HV1.out; have := HXX.out; omega
            have hx1 : ¬ (x : Int) = 64 := by omega
            go_wp2_with fail
            have hf := buf_next (q := v) (p := p2) HB64.out (by rw [HM.out]; exact HBT.out) (by rw [HPL.out]; exact HV1.out.2.1) (by rw [HM.out, HXX.out]; exact hxl)
            rw [HM.out] at hf
            have q1 : (d2 ++ p2.take v).length % 64 = x := by rw [List.length_append, HVL.out]; have := HM.out; have := HXX.out; omega
            have q2 : (d2 ++ p2.take v).length / 64 = d2.length / 64 := by rw [List.length_append, HVL.out]; have := HM.out; have := HXX.out; omega
            go_roundw
            case rel =>
              refine ⟨q + v, H2, bc - v, A2, by have := HV1.out; have := HRK.out; omega, by rw [show k - (q + v) = r - v by have := HRK.out; omega], by have := HBC.out; have := HRK.out; omega, ?_, ?_, HNE2.out, HOR2.out, HK5.out⟩
              · rw [show k - (q + v) = r - v by have := HRK.out; omega, HPD.out]; exact HX5.out
              · rw [HD3.out]
                exact ⟨⟨_, by rw [q1]; exact HG5.out, HLL.out, HLB.out, hf⟩, by rw [q2, stN_append d2 _ _ (by omega)]; exact HST5.out⟩
            case measure => simp only [slLen]; have := HV1.out; omega
        · obtain rfl : q = k := by omega
          have h0 : q - q = 0 := by omega
          rw [h0]
          clear hlt hq hbc hx
          go_wp2_with fail
          go_roundw
          case rel =>
            have hpt : p.take q = p := List.take_of_length_le (by rw [HKL.out]; exact Nat.le_refl _)
            rw [hpt] at hR
            have hT : totI (d ++ flatI (ps.take (j + 1))).length = T1 := by rw [HHN.out, List.length_append, HKL.out]; exact HTT1.out
            refine ⟨j + 1, H2, by have := HLT.out; omega, by go_num, by rw [hT, HHN.out]; exact hR, hne2, ?_, HK2.out.trans hk3⟩
            rcases hor2 with e | e
            · rcases HOR.out with e1 | e1
              · exact .inl (e.trans e1)
              · exact .inr (e ▸ e1)
            · exact .inr (Nat.le_trans HS2.out e)
          case measure => simp [intOf]; have := HLT.out; omega
    · obtain rfl : j = n := by omega
      have HR := Lib.hid hR
      have HNE' := Lib.hid hne'
      have HOR := Lib.hid hor
      have HK := Lib.hid hk
      clear hR hne' hor hk
      go_wp2_with fail
      go_end0
      have hr := HR.out
      rw [List.take_of_length_le (by rw [HL.out]; exact Nat.le_refl _)] at hr
      exact ⟨H', rfl, hr, HOR.out, HNE'.out, HK.out⟩
end Go.Proofs.Ytadpgodmkodgdaa
