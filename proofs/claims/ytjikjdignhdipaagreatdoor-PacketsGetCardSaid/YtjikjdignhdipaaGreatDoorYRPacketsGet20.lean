/- The walk over the document's Get of packets. -/
import Derived.Test.YtjikjdignhdipaaGreatDoorYRPacketsGet12
import Derived.Test.YtjikjdignhdipaaGreatDoorYRPacketsGet17
import Derived.Test.YtjikjdignhdipaaGreatDoorYRPacketsGet19
namespace Go.Proofs.YtjikjdignhdipaaGreatDoor
open Go.RowKit
set_option linter.unusedSimpArgs false
set_option linter.unusedVariables false

/-- What the document's Get hands back. -/
def RPkGot (w : World) (bs : List Int) (e : Ending) (w' : World) : Prop :=
  (pkGetE bs ≠ 0 ∧ e = .returned (.tuple #[.agg zPkt.toArray, .int .i64 (pkGetE bs)]) ∧ Below w.heap.size w w') ∨
  ∃ A n c, pkGetE bs = 0 ∧ (paGet (bs.drop 40)).2.length = n ∧ e = .returned (.tuple #[.agg (pktC (bs[1]?.getD 0) ((bs.drop 8).take 16) ((bs.drop 24).take 16) (.slice A n c)).toArray, .int .i64 0]) ∧ Ps w' A n (paGet (bs.drop 40)).2 ∧ Below w.heap.size w w'
theorem run_build_pkt0 (W : World) : (Instr.build 27 #[]).run Tryz.prog W = .ok (.agg zPkt.toArray) W := by kernel_rfl
theorem run_build_pkt2 (kd : Int) (A : Option Addr) (n c : Nat) (W : World) : (Instr.build 27 #[(0, .int .u8 kd), (3, .slice A n c)]).run Tryz.prog W = .ok (.agg (pktC kd zer16 zer16 (.slice A n c)).toArray) W := by kernel_rfl
theorem exec_alloc_pk (W : World) (o : Oper) (ho : o.op = .alloc 27) (ev : Operand → Value) : (execOp ev o).run Tryz.prog W = .ok (.value (.pointer (some ⟨W.heap.size, 0, none⟩))) (W.alloc (.cells zPkt.toArray 27)) := by
  obtain ⟨d, op, t, p, af, g⟩ := o
  simp only at ho
  subst ho
  kernel_rfl
theorem pktC_setF {kd : Int} {f t : List Int} {v : Value} {i : Nat} (hf : f.length = 16) (hi : i < 16) (x : Int) : (pktC kd f t v).set (1 + i) (.int .u8 x) = pktC kd (f.set i x) t v := by
  rw [Nat.add_comm]
  simp only [pktC, List.set_cons_succ]
  rw [List.set_append, if_pos (by simp [hf]; omega), List.map_set]
theorem pktC_setT {kd : Int} {f t : List Int} {v : Value} {i : Nat} (hf : f.length = 16) (ht : t.length = 16) (hi : i < 16) (x : Int) : (pktC kd f t v).set (17 + i) (.int .u8 x) = pktC kd f (t.set i x) v := by
  rw [show 17 + i = (16 + i) + 1 by omega]
  simp only [pktC, List.set_cons_succ]
  rw [List.set_append, if_neg (by simp [hf]), List.length_map, hf, show 16 + i - 16 = i by omega, List.set_append, if_pos (by simp [ht]; omega), List.map_set]
theorem fill_set (l z : List Int) (i : Nat) (hl : l.length = 16) (hz : z.length = 16) (hi : i < 16) : (l.take i ++ z.drop i).set i (l[i]?.getD 0) = l.take (i + 1) ++ z.drop (i + 1) := by
  have h1 : (l.take i).length = i := by rw [List.length_take]; omega
  rw [List.take_succ_eq_append_getElem (by omega), List.set_append, if_neg (by omega), h1, Nat.sub_self, List.drop_eq_getElem_cons (by omega), List.set_cons_zero, List.append_assoc]
  simp [show i < l.length by omega]

theorem rd_cells {W : World} {b off n : Nat} {xs : List Int} (h : Rd W .u8 (some ⟨b, off, none⟩) n xs) (h0 : 0 < n) : ∀ j, j < n → W.cell? ⟨b, off + j, none⟩ = some (.int .u8 (xs[j]?.getD 0)) := by
  obtain ⟨b', off', e, _, hc⟩ := h.row h0
  injection e with e
  injection e with e1 e2 _
  subst e1; subst e2
  exact hc
theorem byte_at {xs : List Int} (h : isB xs) (i : Nat) : 0 ≤ xs[i]?.getD 0 ∧ xs[i]?.getD 0 ≤ 255 := by
  rcases Nat.lt_or_ge i xs.length with hi | hi
  · rw [List.getElem?_eq_getElem hi]; exact h _ (List.getElem_mem hi)
  · rw [List.getElem?_eq_none hi]; simp
theorem okB_iff {bs : List Int} (h : isB bs) (h8 : 8 ≤ bs.length) {nn : Int} {n : Nat} (hn : told ((bs.drop 2).take 2) = nn) (hl : bs.length = n) :
    okB bs = true ↔ (bs[0]?.getD 0 = 1 ∧ ((1 : Int) ≤ bs[1]?.getD 0 ∧ bs[1]?.getD 0 ≤ 8) ∧ nn = n ∧ bs[6]?.getD 0 = 0 ∧ bs[7]?.getD 0 = 0 ∧ bs[4]?.getD 0 = chk (withChk bs 0) / 256 ∧ bs[5]?.getD 0 = chk (withChk bs 0) % 256) := by
  have h4 := byte_at h 4
  have h5 := byte_at h 5
  have ht : told ((bs.drop 4).take 2) = 256 * bs[4]?.getD 0 + bs[5]?.getD 0 := by
    obtain ⟨b0, b1, b2, b3, b4, b5, b6, b7, r, rfl⟩ := eight bs h8
    simp only [List.drop_succ_cons, List.drop_zero, told2]
    rfl
  unfold okB
  rw [hn, hl, ht]
  simp only [Bool.and_eq_true, decide_eq_true_eq]
  constructor
  · rintro ⟨⟨a0, a1⟩, a2, ⟨a6, a7⟩, a4⟩
    exact ⟨a0, a1, a2, a6, a7, by omega, by omega⟩
  · rintro ⟨a0, a1, a2, a6, a7, a4, a5⟩
    exact ⟨⟨a0, a1⟩, a2, ⟨a6, a7⟩, by omega⟩
theorem got_twin {w3 : World} {base n : Nat} {v : Value} {bs : List Int} (h : w3.ownsRow base 5 1 v (0 + n) (([] ++ bs).map (Value.int .u8))) (h6 : 6 ≤ n) (hl : bs.length = n) :
    ∃ g3 c3, v = .slice (some ⟨g3, 0, none⟩) n c3 ∧ base ≤ g3 ∧ w3.cell? ⟨g3, 4, none⟩ = some (.int .u8 (bs[4]?.getD 0)) ∧ (w3.setCell ⟨g3, 4, none⟩ (.int .u8 0)).cell? ⟨g3, 5, none⟩ = some (.int .u8 (bs[5]?.getD 0)) ∧ w3.frozen? ⟨g3, 4, none⟩ = false ∧ (w3.setCell ⟨g3, 4, none⟩ (.int .u8 0)).frozen? ⟨g3, 5, none⟩ = false ∧
      ((w3.setCell ⟨g3, 4, none⟩ (.int .u8 0)).setCell ⟨g3, 5, none⟩ (.int .u8 0)).ownsRow base 5 1 (.slice (some ⟨g3, 0, none⟩) n c3) n ((withChk bs 0).map (Value.int .u8)) ∧ Keeps (· = g3) w3 ((w3.setCell ⟨g3, 4, none⟩ (.int .u8 0)).setCell ⟨g3, 5, none⟩ (.int .u8 0)) := by
  rw [Nat.zero_add, List.nil_append] at h
  obtain ⟨A3, c3, rfl, hc3, _, hp3⟩ := own_slice h
  obtain ⟨g3, rfl, hg3b, hg3l, hob3⟩ := hp3 (by omega)
  have hci : ∀ j, j < n → w3.cell? ⟨g3, j, none⟩ = some (.int .u8 (bs[j]?.getD 0)) := fun j hj => by
    have := h.cells hob3 j (.int .u8 (bs[j]?.getD 0)) (by simp [show j < bs.length by omega])
    rwa [show (⟨g3, 0, none⟩ : Addr).add j = ⟨g3, j, none⟩ by unfold Addr.add; split <;> simp_all] at this
  have hst1 := (h.stored 4 (.int .u8 0)).1
  have hst2 := (hst1.stored 5 (.int .u8 0)).1
  rw [← List.map_set, ← List.map_set] at hst2
  exact ⟨g3, c3, rfl, hg3b, hci 4 (by omega), (World.cell?_setCell_other _ _ _ _ (by intro e; injection e with _ e _; cases e)).trans (hci 5 (by omega)), h.frozenAt 4, hst1.frozenAt 5, hst2, (Keeps.set1 w3 ⟨g3, 4, none⟩ _).trans (Keeps.set1 _ ⟨g3, 5, none⟩ _)⟩

set_option maxRecDepth 100000 in
set_option maxHeartbeats 8000000 in
theorem refpkget_any (A0 : Option Addr) (n0 c0 : Nat) (bs : List Int) (w : World) (r0 : Rd w .u8 A0 n0 bs) (l0 : n0 ≤ c0) (hz0 : A0 = none → c0 = 0) :
    Calls Tryz.prog 17 #[.slice A0 n0 c0] w (RPkGot w bs) := by
  have hbig := r0.big
  have hl := r0.len
  have hu : Tryz.prog.underlying 27 = some (.struct _) := Tryz.underlying27
  obtain ⟨Z, hZ⟩ : ∃ Z, zPkt = Z := ⟨_, rfl⟩
  have hZl : Z.length = 34 := by rw [← hZ]; exact pktC_length rfl rfl
  have hZ1 : Z.toArray.all (·.oneCell') = true := by rw [← hZ]; exact all_oneCell_toArray pktC_one
  have hsz : (Tryz.prog.info? 27).map (·.size) = some Z.length := by rw [hZl]; exact info_pkt
  have hsz2 : (Tryz.prog.info? 27).map (·.size) = some Z.toArray.size := by rw [List.size_toArray]; exact hsz
  obtain ⟨w1, hw1⟩ : ∃ w1, w.alloc (.cells Z.toArray 27) = w1 := ⟨_, rfl⟩
  have hk1 : Blk w1 w.heap.size 27 Z := by rw [← hw1]; exact Blk.new w 27 Z
  have hB1 : Below w.heap.size w w1 := by rw [← hw1]; exact (Below.refl _ _).alloc (Nat.le_refl _) _
  have hbld : ∀ W : World, (Instr.build 27 #[]).run Tryz.prog W = .ok (.agg Z.toArray) W := fun W => by rw [← hZ]; exact run_build_pkt0 W
  have HSZ := Lib.hid hsz
  have HSZ2 := Lib.hid hsz2
  have HZ1 := Lib.hid hZ1
  have HZL := Lib.hid hZl
  have HU := Lib.hid hu
  have HZ := Lib.hid hZ
  have HK1 := Lib.hid hk1
  have HB1 := Lib.hid hB1
  have HR0 := Lib.hid r0
  have HL := Lib.hid hl
  have HZZ := Lib.hid hz0
  have HBLD := Lib.hid hbld
  have HAL : Hid (∀ (o : Oper), o.op = .alloc 27 → ∀ ev, (execOp ev o).run Tryz.prog w = .ok (.value (.pointer (some ⟨w.heap.size, 0, none⟩))) w1) := Lib.hid (fun o ho ev => by rw [← hw1, ← hZ]; exact exec_alloc_pk w o ho ev)
  have HERR : Hid (∀ (W : World) (E : Int), Below w1.heap.size w1 W → pkGetE bs = E → E ≠ 0 → Blk (W.setCells w.heap.size 0 Z) w.heap.size 27 Z ∧ RPkGot w bs (.returned (.tuple #[.agg Z.toArray, .int .i64 E])) (W.setCells w.heap.size 0 Z)) := Lib.hid (fun W E hW hE hne => by
    have hk := hk1.below hW hk1.lt
    have hks := Blk.setCells Z 0 _ _ hk (by omega)
    rw [splice_whole Z Z rfl] at hks
    refine ⟨hks, .inl ⟨by rw [hE]; exact hne, by rw [hE, hZ], ?_⟩⟩
    exact below_keeps (hB1.trans (hW.mono hB1.size)) (Keeps.setCells Z 0 W) (Nat.le_refl _) (fun i hi => by omega))
  have HTHR : Hid (∀ W : World, Below w1.heap.size w1 W → W.there w.heap.size 0 Z.toArray.size) := Lib.hid (fun W hW => (hk1.below hW hk1.lt).there 0 _ (by simp))
  clear hu hZ hZl hZ1 hsz hsz2 hk1 hB1 hl r0 hz0 hw1 hbld
  by_cases h2048 : 2048 < n0
  · have hE : pkGetE bs = 3 := by unfold pkGetE; rw [if_pos (by rw [HL.out]; omega)]
    obtain ⟨hks, hfin⟩ := HERR.out w1 3 (Below.refl _ _) hE (by decide)
    have h' : (2048 : Int) < (n0 : Int) := by omega
    have hbld := HBLD.out
    have HKS := Lib.hid hks
    have HFIN := Lib.hid hfin
    clear hE hks hfin
    go_enter Tryz.func17, Tryz.ntmps17
    go_wp2_with (first
      | (refine wpList_value (o := ⟨some 2, .alloc 27, _, _, _, _⟩) (v := .pointer (some ⟨w.heap.size, 0, none⟩)) (w' := w1) rfl (HAL.out _ rfl _) ?_)
      | (refine wpList_store_mid rfl 27 _ _ rfl w.heap.size 0 zPkt.toArray rfl rfl (by rw [HZ.out]; exact HTHR.out _ (Below.refl _ _)) (by rw [HZ.out]; exact HSZ2.out) (by rw [HZ.out]; exact HZ1.out) ?_; rw [show zPkt.toArray.toList = Z from HZ.out]))
    refine bodyPost_ret (results_row_tmp rfl _ _ w.heap.size Z _ rfl HKS.out HU.out rfl HSZ.out) rfl ?_
    exact HFIN.out
  · have h' : ¬ ((2048 : Int) < (n0 : Int)) := by omega
    by_cases h40 : n0 < 40
    · have hE : pkGetE bs = 5 := by unfold pkGetE; rw [if_neg (by rw [HL.out]; omega), if_pos (by rw [HL.out]; exact h40)]
      obtain ⟨hks, hfin⟩ := HERR.out w1 5 (Below.refl _ _) hE (by decide)
      have h4' : (n0 : Int) < 40 := by omega
      have hbld := HBLD.out
      have HKS := Lib.hid hks
      have HFIN := Lib.hid hfin
      clear hE hks hfin
      go_enter Tryz.func17, Tryz.ntmps17
      go_wp2_with (first
        | (refine wpList_value (o := ⟨some 2, .alloc 27, _, _, _, _⟩) (v := .pointer (some ⟨w.heap.size, 0, none⟩)) (w' := w1) rfl (HAL.out _ rfl _) ?_)
        | (refine wpList_store_mid rfl 27 _ _ rfl w.heap.size 0 zPkt.toArray rfl rfl (by rw [HZ.out]; exact HTHR.out _ (Below.refl _ _)) (by rw [HZ.out]; exact HSZ2.out) (by rw [HZ.out]; exact HZ1.out) ?_; rw [show zPkt.toArray.toList = Z from HZ.out]))
      refine bodyPost_ret (results_row_tmp rfl _ _ w.heap.size Z _ rfl HKS.out HU.out rfl HSZ.out) rfl ?_
      exact HFIN.out
    · have h4' : ¬ (n0 : Int) < 40 := by omega
      have hE : pkGetE bs = if okB bs = false then 4 else (paGet (bs.drop 40)).1 := by unfold pkGetE; rw [if_neg (by rw [HL.out]; omega), if_neg (by rw [HL.out]; exact h40)]
      have HE := Lib.hid hE
      have hby := rd_bytes HR0.out
      have hisB : isB bs := hby
      obtain ⟨A2, hs2', hr2, hz2⟩ := slice_from A0 n0 c0 2 (by omega) l0 HZZ.out
      have hs2 : ∀ W : World, (Instr.slice 31 (.slice A0 n0 c0) (some (.int .i64 2)) none none).run Tryz.prog W = .ok (.slice A2 (n0 - 2) (c0 - 2)) W := hs2'
      obtain ⟨nn, hnn⟩ : ∃ nn, told ((bs.drop 2).take 2) = nn := ⟨_, rfl⟩
      have hnb := told_bounds ((bs.drop 2).take 2) (fun x hx => hby x (List.mem_of_mem_drop (List.mem_of_mem_take hx)))
      have p2 : pow256 ((bs.drop 2).take 2).length = 65536 := by rw [List.length_take, List.length_drop, HL.out, Nat.min_eq_left (by omega)]; rfl
      rw [p2, hnn] at hnb
      have hg := refget_any A2 (n0 - 2) (c0 - 2) (bs.drop 2) 2 w1 (hr2 w1 bs (HR0.out.below HB1.out)) (by omega)
      have e1 : getE (n0 - 2) 2 = 0 := by unfold getE; rw [if_neg (by omega), if_neg (by omega)]
      have e2 : getN (bs.drop 2) (n0 - 2) 2 = nn := by unfold getN; rw [e1]; exact hnn
      rw [e1, e2] at hg
      have HG := Lib.hid hg
      have HNN := Lib.hid hnn
      have HBY := Lib.hid hby
      have HNB := Lib.hid hnb
      clear hg hr2 hz2 e1 e2 hnn hE hby hnb p2 hs2'
      go_enter Tryz.func17, Tryz.ntmps17
      go_wp2_with (refine wpList_value (o := ⟨some 2, .alloc 27, _, _, _, _⟩) (v := .pointer (some ⟨w.heap.size, 0, none⟩)) (w' := w1) rfl (HAL.out _ rfl _) ?_)
      refine HG.out.mono ?_; rintro e w2 ⟨rfl, hB2⟩
      have HB12 := Lib.hid hB2
      have HRW2 := Lib.hid ((HR0.out.below HB1.out).below hB2)
      clear hB2 HG
      obtain ⟨b, off, rfl, hbl, hcl⟩ := HR0.out.row (by omega)
      have HBL := Lib.hid hbl
      clear hbl hcl
      have n4 : (4 : Int) < (n0 : Int) := by omega
      have n5 : (5 : Int) < (n0 : Int) := by omega
      have h6n : 6 ≤ n0 := by omega
      go_wp2_with (at_builtin; refine append_bytes (w := w2) w1.heap.size rfl _ _ rfl (.slice none 0 0) 0 [] rfl (some ⟨b, off, none⟩) n0 c0 bs rfl HRW2.out HZZ.out (own_nil _ _ _ _) HB12.out.size (by omega) ?_; intro v3 w3 HO3 hg3 hat3; have HB13 := Lib.hid (grown_below HB12.out hg3 (own_nil w2 w1.heap.size 5 1) (Nat.le_refl _)); clear hg3 hat3; obtain ⟨g3, c3, rfl, hg3b, q4, q5, f4, f5, hst2, hkS⟩ := got_twin HO3.out h6n HL.out; have HG3B := Lib.hid hg3b; have HST2 := Lib.hid hst2; have HKS := Lib.hid hkS; clear hg3b hst2 hkS HO3)
      have hwb : isB (withChk bs 0) := isB_withChk hisB (by omega) (by omega)
      have hB15 : Below w1.heap.size w1 ((w3.setCell ⟨g3, 4, none⟩ (.int .u8 0)).setCell ⟨g3, 5, none⟩ (.int .u8 0)) := below_keeps HB13.out HKS.out (Nat.le_refl _) (fun i hi => by rw [hi]; exact HG3B.out)
      have hrd5 := rd_own HST2.out hwb (by omega)
      have hch := refcheck_any (some ⟨g3, 0, none⟩) n0 c3 (withChk bs 0) _ hrd5 (by omega)
      have hq := chk_range hwb
      have hkok : okB bs = true ↔ (bs[0]?.getD 0 = 1 ∧ ((1 : Int) ≤ bs[1]?.getD 0 ∧ bs[1]?.getD 0 ≤ 8) ∧ nn = n0 ∧ bs[6]?.getD 0 = 0 ∧ bs[7]?.getD 0 = 0 ∧ bs[4]?.getD 0 = chk (withChk bs 0) / 256 ∧ bs[5]?.getD 0 = chk (withChk bs 0) % 256) := okB_iff hisB (by rw [HL.out]; omega) HNN.out HL.out
      obtain ⟨q, hqe⟩ : ∃ q, chk (withChk bs 0) = q := ⟨_, rfl⟩
      rw [hqe] at hch hq hkok
      have HKOK := Lib.hid hkok
      have HCH := Lib.hid hch
      have HB15 := Lib.hid hB15
      have HQ := Lib.hid hq
      clear hwb hB15 hrd5 hch hq hkok hqe
      refine HCH.out.mono ?_; rintro e w5 ⟨rfl, rfl⟩
      generalize (w3.setCell ⟨g3, 4, none⟩ (.int .u8 0)).setCell ⟨g3, 5, none⟩ (.int .u8 0) = w5 at *
      clear q4 q5 f4 f5 HCH HB13 HRW2 HB12 HST2 HKS HG3B
      have hRW5 := (HR0.out.below HB1.out).below HB15.out
      have hcl := rd_cells hRW5 (by omega)
      have c0' : w5.cell? ⟨b, off, none⟩ = some (.int .u8 (bs[0]?.getD 0)) := hcl 0 (by omega)
      have c1' : w5.cell? ⟨b, off + 1, none⟩ = some (.int .u8 (bs[1]?.getD 0)) := hcl 1 (by omega)
      have c4' : w5.cell? ⟨b, off + 4, none⟩ = some (.int .u8 (bs[4]?.getD 0)) := hcl 4 (by omega)
      have c5' : w5.cell? ⟨b, off + 5, none⟩ = some (.int .u8 (bs[5]?.getD 0)) := hcl 5 (by omega)
      have c6' : w5.cell? ⟨b, off + 6, none⟩ = some (.int .u8 (bs[6]?.getD 0)) := hcl 6 (by omega)
      have c7' : w5.cell? ⟨b, off + 7, none⟩ = some (.int .u8 (bs[7]?.getD 0)) := hcl 7 (by omega)
      have hb0 := byte_at hisB 0
      have hb1 := byte_at hisB 1
      have hb4 := byte_at hisB 4
      have hb5 := byte_at hisB 5
      obtain ⟨k0, hk0⟩ : ∃ x, bs[0]?.getD 0 = x := ⟨_, rfl⟩
      obtain ⟨k1, hk1⟩ : ∃ x, bs[1]?.getD 0 = x := ⟨_, rfl⟩
      obtain ⟨k4, hk4⟩ : ∃ x, bs[4]?.getD 0 = x := ⟨_, rfl⟩
      obtain ⟨k5, hk5⟩ : ∃ x, bs[5]?.getD 0 = x := ⟨_, rfl⟩
      obtain ⟨k6, hk6⟩ : ∃ x, bs[6]?.getD 0 = x := ⟨_, rfl⟩
      obtain ⟨k7, hk7⟩ : ∃ x, bs[7]?.getD 0 = x := ⟨_, rfl⟩
      rw [hk0] at c0' hb0 HKOK
      rw [hk1] at c1' hb1 HKOK
      rw [hk4] at c4' hb4 HKOK
      rw [hk5] at c5' hb5 HKOK
      rw [hk6] at c6' HKOK
      rw [hk7] at c7' HKOK
      have HK1E := Lib.hid hk1
      have HRW5 := Lib.hid hRW5
      clear hk0 hk1 hk4 hk5 hk6 hk7 hcl hRW5 hb0 hb4 hb5
      have n0' : (0 : Int) < (n0 : Int) := by omega
      have n1' : (1 : Int) < (n0 : Int) := by omega
      have n6' : (6 : Int) < (n0 : Int) := by omega
      have n7' : (7 : Int) < (n0 : Int) := by omega
      have hwn : IntKind.i64.wrap nn = nn := IntWalk.i64_in _ (by have := HNB.out; omega)
      have hw1 : IntKind.u8.wrap (q / 256) = q / 256 := IntWalk.u8_in _ (by have := HQ.out; omega)
      have hw2 : IntKind.u8.wrap q = q % 256 := by simp [IntKind.wrap, IntKind.bits, IntKind.signed]
      have HBAD : Hid (okB bs ≠ true → pkGetE bs = 4) := Lib.hid (fun h => by rw [HE.out, if_pos (by simpa using h)])
      have hkind := refkind_any k1 w5 hb1.1
      by_cases e0 : k0 = 1
      · subst e0
        by_cases e1 : 1 ≤ k1 ∧ k1 ≤ 8
        · rw [decide_eq_true e1] at hkind
          by_cases e2 : nn = (n0 : Int)
          · by_cases e6 : k6 = 0
            · subst e6
              by_cases e7 : k7 = 0
              · subst e7
                by_cases e4 : k4 = q / 256
                · by_cases e5 : k5 = q % 256
                  · subst e4; subst e5; subst e2
                    have hok : okB bs = true := HKOK.out.2 ⟨rfl, e1, rfl, rfl, rfl, rfl, rfl⟩
                    have HE5 : Hid (pkGetE bs = (paGet (bs.drop 40)).1) := Lib.hid (by rw [HE.out, if_neg (by rw [hok]; simp)])
                    obtain ⟨A7, hs7', hr7, hz7⟩ := slice_from (some ⟨b, off, none⟩) n0 c0 40 (by omega) l0 HZZ.out
                    have hs7 : ∀ W : World, (Instr.slice 31 (.slice (some ⟨b, off, none⟩) n0 c0) (some (.int .i64 40)) none none).run Tryz.prog W = .ok (.slice A7 (n0 - 40) (c0 - 40)) W := hs7'
                    have hpg := refpaget_any A7 (n0 - 40) (c0 - 40) (bs.drop 40) w5 (hr7 w5 bs HRW5.out) (by omega) hz7
                    have HPG := Lib.hid hpg
                    clear hr7 hz7 hs7' hok hpg e1
                    go_wp2_with fail
                    refine hkind.mono ?_; rintro e w6 ⟨rfl, rfl⟩
                    go_wp2_with fail
                    refine HPG.out.mono ?_
                    rintro e w6 (⟨hne, rfl, hB6⟩ | ⟨A8, c8, h00, rfl, hps, hB6⟩)
                    · obtain ⟨hks, hfin⟩ := HERR.out w6 (paGet (bs.drop 40)).1 (HB15.out.trans (hB6.mono HB15.out.size)) HE5.out hne
                      have hne1 : ((paGet (bs.drop 40)).1 == 0) = false := beq_eq_false_iff_ne.2 hne
                      have hne2 : ((paGet (bs.drop 40)).1 != 0) = true := by simpa using hne
                      generalize (paGet (bs.drop 40)).1 = E at hks hfin hne1 hne2 ⊢
                      have HKS := Lib.hid hks
                      have HFIN := Lib.hid hfin
                      have HB16 := Lib.hid (HB15.out.trans (hB6.mono HB15.out.size))
                      clear hks hfin hne hB6 HPG
                      go_wp2_with (refine wpList_store_mid rfl 27 _ _ rfl w.heap.size 0 zPkt.toArray rfl rfl (by rw [HZ.out]; exact HTHR.out _ HB16.out) (by rw [HZ.out]; exact HSZ2.out) (by rw [HZ.out]; exact HZ1.out) ?_; rw [show zPkt.toArray.toList = Z from HZ.out])
                      refine bodyPost_ret (results_row_tmp rfl _ _ w.heap.size Z _ rfl HKS.out HU.out rfl HSZ.out) rfl ?_
                      exact HFIN.out
                    · have HE6 : Hid (pkGetE bs = 0) := Lib.hid (by rw [HE5.out, h00])
                      obtain ⟨m, hm⟩ : ∃ m, (paGet (bs.drop 40)).2.length = m := ⟨_, rfl⟩
                      rw [hm] at hps ⊢
                      obtain ⟨G, hG⟩ : ∃ G, w6.heap.size = G := ⟨_, rfl⟩
                      obtain ⟨w7, hw7⟩ : ∃ w7, w6.alloc (.cells Z.toArray 27) = w7 := ⟨_, rfl⟩
                      have hk7 : Blk w7 G 27 Z := by rw [← hw7, ← hG]; exact Blk.new w6 27 Z
                      obtain ⟨F, hF⟩ : ∃ F, (bs.drop 8).take 16 = F := ⟨_, rfl⟩
                      obtain ⟨T, hT⟩ : ∃ T, (bs.drop 24).take 16 = T := ⟨_, rfl⟩
                      have hFl : F.length = 16 := by rw [← hF]; simp [HL.out]; omega
                      have hTl : T.length = 16 := by rw [← hT]; simp [HL.out]; omega
                      have hFa : ∀ k, k < 16 → F[k]?.getD 0 = bs[8 + k]?.getD 0 := fun k hk => by rw [← hF, List.getElem?_take_of_lt hk, List.getElem?_drop]
                      have hTa : ∀ k, k < 16 → T[k]?.getD 0 = bs[24 + k]?.getD 0 := fun k hk => by rw [← hT, List.getElem?_take_of_lt hk, List.getElem?_drop]
                      obtain ⟨w8, hw8⟩ : ∃ w8, w7.setCells G 0 (pktC k1 zer16 zer16 (.slice A8 m c8)) = w8 := ⟨_, rfl⟩
                      have hk8 : Blk w8 G 27 (pktC k1 zer16 zer16 (.slice A8 m c8)) := by rw [← hw8]; have := Blk.setCells (pktC k1 zer16 zer16 (.slice A8 m c8)) 0 _ _ hk7 (by rw [HZL.out, pktC_length rfl rfl]; omega); rwa [splice_whole _ _ (by rw [HZL.out, pktC_length rfl rfl])] at this
                      have hB68 : Below w6.heap.size w6 w8 := by
                        rw [← hw8, ← hw7]
                        exact below_keeps ((Below.refl _ w6).alloc (Nat.le_refl _) _) (Keeps.setCells _ 0 _) (Nat.le_refl _) (fun i hi => by omega)
                      have HAL6 : Hid (∀ (o : Oper), o.op = .alloc 27 → ∀ ev, (execOp ev o).run Tryz.prog w6 = .ok (.value (.pointer (some ⟨G, 0, none⟩))) w7) := Lib.hid (fun o ho ev => by rw [← hw7, ← HZ.out, ← hG]; exact exec_alloc_pk w6 o ho ev)
                      have HTH7 : Hid (w7.there G 0 (pktC k1 zer16 zer16 (.slice A8 m c8)).toArray.size) := Lib.hid (hk7.there 0 _ (by rw [List.size_toArray, pktC_length rfl rfl, HZL.out]; exact Nat.le_refl _))
                      have HSX : Hid ((Tryz.prog.info? 27).map (·.size) = some (pktC k1 zer16 zer16 (.slice A8 m c8)).toArray.size) := Lib.hid (by rw [List.size_toArray, pktC_length rfl rfl]; exact info_pkt)
                      have HBb : Hid (b < w6.heap.size) := Lib.hid (Nat.lt_of_lt_of_le HBL.out (Nat.le_trans HB1.out.size (Nat.le_trans HB15.out.size hB6.size)))
                      have hbG : ¬ b = G := by have := HBb.out; omega
                      have hGb : ¬ G = b := by omega
                      have hPG : w.heap.size < G := by have h1 := HK1.out.lt; have h2 := HB15.out.size; have h3 := hB6.size; omega
                      have c1s : w6.cell? ⟨b, off + 1, none⟩ = some (.int .u8 k1) := (hB6.cell (p := ⟨b, off + 1, none⟩) (Nat.lt_of_lt_of_le HBL.out (Nat.le_trans HB1.out.size HB15.out.size))).trans c1'
                      have HPS := Lib.hid hps
                      have HRW6 := Lib.hid (HRW5.out.below hB6)
                      have HB16 := Lib.hid (HB15.out.trans (hB6.mono HB15.out.size))
                      have HB56 := Lib.hid hB6.size
                      have HM := Lib.hid hm
                      have HG := Lib.hid hG
                      have HFL := Lib.hid hFl
                      have HTL := Lib.hid hTl
                      have HFA := Lib.hid hFa
                      have HTA := Lib.hid hTa
                      have HF := Lib.hid hF
                      have HT := Lib.hid hT
                      have HW8 := Lib.hid hw8
                      have HK8 := Lib.hid hk8
                      have HB68 := Lib.hid hB68
                      clear h00 hps hB6 hm hG hw7 hk7 hF hT hFl hTl hFa hTa hw8 hk8 hB68 c0' c1' c4' c5' c6' c7' HPG HRW5
                      go_wp2_with (first
                        | (refine wpList_value (o := ⟨some 10, .alloc 27, _, _, _, _⟩) (v := .pointer (some ⟨G, 0, none⟩)) (w' := w7) rfl (HAL6.out _ rfl _) ?_)
                        | (refine wpList_store_mid rfl 27 _ _ rfl G 0 (pktC k1 zer16 zer16 (.slice A8 m c8)).toArray rfl rfl HTH7.out HSX.out (all_oneCell_toArray pktC_one) ?_; rw [show (pktC k1 zer16 zer16 (.slice A8 m c8)).toArray.toList = pktC k1 zer16 zer16 (.slice A8 m c8) from rfl, HW8.out]))
                      go_loopw [11] (fun v wr => ∃ k : Nat, k ≤ 16 ∧ v = .int .i64 k ∧ Blk wr G 27 (pktC k1 (F.take k ++ zer16.drop k) (T.take k ++ zer16.drop k) (.slice A8 m c8)) ∧ Below w6.heap.size w6 wr) (fun v _ => 16 - (intOf v).toNat)
                      case atStart => exact ⟨0, by omega, rfl, HK8.out, HB68.out⟩
                      case round =>
                        obtain ⟨k, hk, rfl, hblk, hBr⟩ := hrel
                        by_cases hk16 : k < 16
                        · have hkk : (k : Int) < 16 := by omega
                          obtain ⟨i8, hi8⟩ : ∃ i, 8 + k = i := ⟨_, rfl⟩
                          obtain ⟨i24, hi24⟩ : ∃ i, 24 + k = i := ⟨_, rfl⟩
                          have hw8 : IntKind.i64.wrap (8 + (k : Int)) = (i8 : Int) := by rw [IntWalk.i64_in _ (by omega)]; omega
                          have hw24 : IntKind.i64.wrap (24 + (k : Int)) = (i24 : Int) := by rw [IntWalk.i64_in _ (by omega)]; omega
                          have hl8 : (i8 : Int) < (n0 : Int) := by omega
                          have hl24 : (i24 : Int) < (n0 : Int) := by omega
                          have hcw := rd_cells (HRW6.out.below hBr) (by omega)
                          have d8 := hcw i8 (by omega)
                          have d24' := hcw i24 (by omega)
                          have hxl : (pktC k1 (F.take k ++ zer16.drop k) (T.take k ++ zer16.drop k) (.slice A8 m c8)).length = 34 := pktC_length (by simp [HFL.out, zer16]; omega) (by simp [HTL.out, zer16]; omega)
                          obtain ⟨u1, hu1⟩ : ∃ x, wr.cell? ⟨G, 1 + k, none⟩ = some x := ⟨_, (hblk.cell (1 + k)).trans (List.getElem?_eq_getElem (by omega))⟩
                          have g1 : wr.frozen? ⟨G, 1 + k, none⟩ = false := hblk.free (1 + k)
                          have hb2 := hblk.put (1 + k) (.int .u8 (bs[i8]?.getD 0))
                          have hx2 : ((pktC k1 (F.take k ++ zer16.drop k) (T.take k ++ zer16.drop k) (.slice A8 m c8)).set (1 + k) (.int .u8 (bs[i8]?.getD 0))).length = 34 := by rw [List.length_set, hxl]
                          obtain ⟨u2, hu2⟩ : ∃ x, (wr.setCell ⟨G, 1 + k, none⟩ (.int .u8 (bs[i8]?.getD 0))).cell? ⟨G, 17 + k, none⟩ = some x := ⟨_, (hb2.cell (17 + k)).trans (List.getElem?_eq_getElem (by omega))⟩
                          have g2 : (wr.setCell ⟨G, 1 + k, none⟩ (.int .u8 (bs[i8]?.getD 0))).frozen? ⟨G, 17 + k, none⟩ = false := hb2.free (17 + k)
                          have d24 : (wr.setCell ⟨G, 1 + k, none⟩ (.int .u8 (bs[i8]?.getD 0))).cell? ⟨b, off + i24, none⟩ = some (.int .u8 (bs[i24]?.getD 0)) := (World.cell?_setCell_other _ _ _ _ (by intro e; injection e with e _ _; exact hGb e)).trans d24'
                          have hb3 := hb2.put (17 + k) (.int .u8 (bs[i24]?.getD 0))
                          rw [pktC_setF (by simp [HFL.out, zer16]; omega) hk16, pktC_setT (by simp [HFL.out, zer16]; omega) (by simp [HTL.out, zer16]; omega) hk16, ← hi8, ← hi24, ← HFA.out k hk16, ← HTA.out k hk16, fill_set F zer16 k HFL.out rfl hk16, fill_set T zer16 k HTL.out rfl hk16] at hb3
                          have HB3 := Lib.hid hb3
                          have HBR := Lib.hid hBr
                          clear hb3 hb2 hxl hx2 hcw d24' hblk hBr
                          have HPUT : Hid (Keeps (· = G) wr ((wr.setCell ⟨G, 1 + k, none⟩ (.int .u8 (bs[i8]?.getD 0))).setCell ⟨G, 17 + k, none⟩ (.int .u8 (bs[i24]?.getD 0)))) := Lib.hid ((Keeps.set1 wr ⟨G, 1 + k, none⟩ _).trans (Keeps.set1 _ ⟨G, 17 + k, none⟩ _))
                          rw [HFA.out k hk16, HTA.out k hk16, hi8, hi24] at HB3
                          go_wp2_with fail
                          refine ⟨⟨k + 1, by omega, by go_num, HB3.out, below_keeps HBR.out HPUT.out (Nat.le_refl _) (fun i hi => by rw [hi, HG.out]; exact Nat.le_refl _)⟩, by simp [intOf]; omega⟩
                        · obtain rfl : k = 16 := by omega
                          rw [List.take_of_length_le (by rw [HFL.out]; exact Nat.le_refl _), List.take_of_length_le (by rw [HTL.out]; exact Nat.le_refl _), show zer16.drop 16 = [] from rfl, List.append_nil, List.append_nil] at hblk
                          obtain ⟨ZZ, hZZ⟩ : ∃ ZZ, pktC k1 F T (.slice A8 m c8) = ZZ := ⟨_, rfl⟩
                          rw [hZZ] at hblk
                          have HZZE := Lib.hid hZZ
                          have HL19 : Hid (ZZ.length = 34) := Lib.hid (by rw [← hZZ]; exact pktC_length HFL.out HTL.out)
                          have HONE : Hid (∀ v ∈ ZZ, v.oneCell' = true) := Lib.hid (by rw [← hZZ]; exact pktC_one)
                          have HSZZ : Hid ((Tryz.prog.info? 27).map (·.size) = some ZZ.length) := Lib.hid (by rw [HL19.out]; exact info_pkt)
                          have hk1r := HK1.out.below (HB16.out.trans (hBr.mono HB16.out.size)) HK1.out.lt
                          have HKR := Lib.hid hblk
                          have HK1R := Lib.hid hk1r
                          have HBR := Lib.hid hBr
                          clear hblk hk1r hBr hZZ
                          go_wp2_with (first
                            | (refine wpList_load_mid rfl 27 _ rfl G 0 rfl ZZ _ HKR.out.range HU.out rfl HSZZ.out ?_)
                            | (refine wpList_store_mid rfl 27 _ _ rfl w.heap.size 0 ZZ.toArray rfl rfl (HK1R.out.there 0 _ (by rw [List.size_toArray, HL19.out, HZL.out]; exact Nat.le_refl _)) (by rw [List.size_toArray]; exact HSZZ.out) (all_oneCell_toArray HONE.out) ?_))
                          have hkf := Blk.setCells ZZ 0 _ _ HK1R.out (by rw [HL19.out, HZL.out]; omega)
                          rw [splice_whole _ _ (by rw [HL19.out, HZL.out])] at hkf
                          have hkk := Keeps.setCells (g := w.heap.size) ZZ 0 wr
                          refine bodyPost_ret (results_row_tmp rfl _ _ w.heap.size ZZ _ rfl hkf HU.out rfl HSZZ.out) rfl ?_
                          have hB16 : Below w.heap.size w w6 := HB1.out.trans (HB16.out.mono HB1.out.size)
                          have hBwr : Below w.heap.size w wr := hB16.trans (HBR.out.mono hB16.size)
                          refine .inr ⟨A8, m, c8, HE6.out, HM.out, ?_, HPS.out _ ?_, below_keeps hBwr hkk (Nat.le_refl _) (fun i hi => by omega)⟩
                          · rw [HK1E.out, HF.out, HT.out, HZZE.out]; rfl
                          · refine (Keeps.of_below (M := fun i => i < w5.heap.size) HBR.out).trans (hkk.mono (fun i hi => ?_))
                            have h1 := HK1.out.lt
                            have h2 := HB15.out.size
                            omega
                  · have hE4 : pkGetE bs = 4 := HBAD.out (fun h => by have := HKOK.out.1 h; omega)
                    have hne1 : (k5 == (q % 256)) = false := beq_eq_false_iff_ne.2 e5
                    have hne2 : (k5 != (q % 256)) = true := by simpa using e5
                    go_wp2_with fail
                    refine hkind.mono ?_
                    rintro e w6 ⟨rfl, rfl⟩
                    obtain ⟨hks, hfin⟩ := HERR.out w5 4 HB15.out hE4 (by decide)
                    have HKS := Lib.hid hks
                    have HFIN := Lib.hid hfin
                    clear hks hfin hE4
                    go_wp2_with (refine wpList_store_mid rfl 27 _ _ rfl w.heap.size 0 zPkt.toArray rfl rfl (by rw [HZ.out]; exact HTHR.out _ HB15.out) (by rw [HZ.out]; exact HSZ2.out) (by rw [HZ.out]; exact HZ1.out) ?_; rw [show zPkt.toArray.toList = Z from HZ.out])
                    refine bodyPost_ret (results_row_tmp rfl _ _ w.heap.size Z _ rfl HKS.out HU.out rfl HSZ.out) rfl ?_
                    exact HFIN.out
                · have hE4 : pkGetE bs = 4 := HBAD.out (fun h => by have := HKOK.out.1 h; omega)
                  have hne1 : (k4 == (q / 256)) = false := beq_eq_false_iff_ne.2 e4
                  have hne2 : (k4 != (q / 256)) = true := by simpa using e4
                  go_wp2_with fail
                  refine hkind.mono ?_
                  rintro e w6 ⟨rfl, rfl⟩
                  obtain ⟨hks, hfin⟩ := HERR.out w5 4 HB15.out hE4 (by decide)
                  have HKS := Lib.hid hks
                  have HFIN := Lib.hid hfin
                  clear hks hfin hE4
                  go_wp2_with (refine wpList_store_mid rfl 27 _ _ rfl w.heap.size 0 zPkt.toArray rfl rfl (by rw [HZ.out]; exact HTHR.out _ HB15.out) (by rw [HZ.out]; exact HSZ2.out) (by rw [HZ.out]; exact HZ1.out) ?_; rw [show zPkt.toArray.toList = Z from HZ.out])
                  refine bodyPost_ret (results_row_tmp rfl _ _ w.heap.size Z _ rfl HKS.out HU.out rfl HSZ.out) rfl ?_
                  exact HFIN.out
              · have hE4 : pkGetE bs = 4 := HBAD.out (fun h => by have := HKOK.out.1 h; omega)
                have hne1 : (k7 == (0 : Int)) = false := beq_eq_false_iff_ne.2 e7
                have hne2 : (k7 != (0 : Int)) = true := by simpa using e7
                go_wp2_with fail
                refine hkind.mono ?_
                rintro e w6 ⟨rfl, rfl⟩
                obtain ⟨hks, hfin⟩ := HERR.out w5 4 HB15.out hE4 (by decide)
                have HKS := Lib.hid hks
                have HFIN := Lib.hid hfin
                clear hks hfin hE4
                go_wp2_with (refine wpList_store_mid rfl 27 _ _ rfl w.heap.size 0 zPkt.toArray rfl rfl (by rw [HZ.out]; exact HTHR.out _ HB15.out) (by rw [HZ.out]; exact HSZ2.out) (by rw [HZ.out]; exact HZ1.out) ?_; rw [show zPkt.toArray.toList = Z from HZ.out])
                refine bodyPost_ret (results_row_tmp rfl _ _ w.heap.size Z _ rfl HKS.out HU.out rfl HSZ.out) rfl ?_
                exact HFIN.out
            · have hE4 : pkGetE bs = 4 := HBAD.out (fun h => by have := HKOK.out.1 h; omega)
              have hne1 : (k6 == (0 : Int)) = false := beq_eq_false_iff_ne.2 e6
              have hne2 : (k6 != (0 : Int)) = true := by simpa using e6
              go_wp2_with fail
              refine hkind.mono ?_
              rintro e w6 ⟨rfl, rfl⟩
              obtain ⟨hks, hfin⟩ := HERR.out w5 4 HB15.out hE4 (by decide)
              have HKS := Lib.hid hks
              have HFIN := Lib.hid hfin
              clear hks hfin hE4
              go_wp2_with (refine wpList_store_mid rfl 27 _ _ rfl w.heap.size 0 zPkt.toArray rfl rfl (by rw [HZ.out]; exact HTHR.out _ HB15.out) (by rw [HZ.out]; exact HSZ2.out) (by rw [HZ.out]; exact HZ1.out) ?_; rw [show zPkt.toArray.toList = Z from HZ.out])
              refine bodyPost_ret (results_row_tmp rfl _ _ w.heap.size Z _ rfl HKS.out HU.out rfl HSZ.out) rfl ?_
              exact HFIN.out
          · have hE4 : pkGetE bs = 4 := HBAD.out (fun h => by have := HKOK.out.1 h; omega)
            have hne1 : (nn == (n0 : Int)) = false := beq_eq_false_iff_ne.2 e2
            have hne2 : (nn != (n0 : Int)) = true := by simpa using e2
            go_wp2_with fail
            refine hkind.mono ?_
            rintro e w6 ⟨rfl, rfl⟩
            obtain ⟨hks, hfin⟩ := HERR.out w5 4 HB15.out hE4 (by decide)
            have HKS := Lib.hid hks
            have HFIN := Lib.hid hfin
            clear hks hfin hE4
            go_wp2_with (refine wpList_store_mid rfl 27 _ _ rfl w.heap.size 0 zPkt.toArray rfl rfl (by rw [HZ.out]; exact HTHR.out _ HB15.out) (by rw [HZ.out]; exact HSZ2.out) (by rw [HZ.out]; exact HZ1.out) ?_; rw [show zPkt.toArray.toList = Z from HZ.out])
            refine bodyPost_ret (results_row_tmp rfl _ _ w.heap.size Z _ rfl HKS.out HU.out rfl HSZ.out) rfl ?_
            exact HFIN.out
        · rw [decide_eq_false e1] at hkind
          have hE4 : pkGetE bs = 4 := HBAD.out (fun h => by have := HKOK.out.1 h; omega)
          go_wp2_with fail
          refine hkind.mono ?_
          rintro e w6 ⟨rfl, rfl⟩
          obtain ⟨hks, hfin⟩ := HERR.out w5 4 HB15.out hE4 (by decide)
          have HKS := Lib.hid hks
          have HFIN := Lib.hid hfin
          clear hks hfin hE4
          go_wp2_with (refine wpList_store_mid rfl 27 _ _ rfl w.heap.size 0 zPkt.toArray rfl rfl (by rw [HZ.out]; exact HTHR.out _ HB15.out) (by rw [HZ.out]; exact HSZ2.out) (by rw [HZ.out]; exact HZ1.out) ?_; rw [show zPkt.toArray.toList = Z from HZ.out])
          refine bodyPost_ret (results_row_tmp rfl _ _ w.heap.size Z _ rfl HKS.out HU.out rfl HSZ.out) rfl ?_
          exact HFIN.out
      · have hE4 : pkGetE bs = 4 := HBAD.out (fun h => by have := HKOK.out.1 h; omega)
        have hne1 : (k0 == (1 : Int)) = false := beq_eq_false_iff_ne.2 e0
        have hne2 : (k0 != (1 : Int)) = true := by simpa using e0
        obtain ⟨hks, hfin⟩ := HERR.out w5 4 HB15.out hE4 (by decide)
        have HKS := Lib.hid hks
        have HFIN := Lib.hid hfin
        clear hks hfin hE4
        go_wp2_with (refine wpList_store_mid rfl 27 _ _ rfl w.heap.size 0 zPkt.toArray rfl rfl (by rw [HZ.out]; exact HTHR.out _ HB15.out) (by rw [HZ.out]; exact HSZ2.out) (by rw [HZ.out]; exact HZ1.out) ?_; rw [show zPkt.toArray.toList = Z from HZ.out])
        refine bodyPost_ret (results_row_tmp rfl _ _ w.heap.size Z _ rfl HKS.out HU.out rfl HSZ.out) rfl ?_
        exact HFIN.out
end Go.Proofs.YtjikjdignhdipaaGreatDoor
