/- The walks over PacketSize, TwinPacket, LeftPacket, and a Book's Packet. -/
import Derived.Test.YtjikjdignhdipaaGreatDoorYRPacketsGet28
import Derived.Test.YtjikjdignhdipaaGreatDoorYRPacketsGet34
namespace Go.Proofs.YtjikjdignhdipaaGreatDoor
open Go.RowKit
set_option linter.unusedSimpArgs false
set_option linter.unusedVariables false

theorem pkt_parts {W : World} {g : Nat} {kind : Int} {f t : List Int} {v : Value} (h : Blk W g 27 (pktC kind f t v)) (hf : f.length = 16) (ht : t.length = 16) : W.cell? ⟨g, 0, none⟩ = some (.int .u8 kind) ∧ W.rangeAt g 1 (f.map (Value.int .u8)) ∧ W.rangeAt g 17 (t.map (Value.int .u8)) ∧ W.cell? ⟨g, 33, none⟩ = some v := by
  refine ⟨h.cell 0, fun j v hj => ?_, fun j v hj => ?_, ?_⟩
  · have hjl := (List.getElem?_eq_some_iff.1 hj).1
    rw [h.cell, Nat.add_comm, pktC, List.getElem?_cons_succ, List.getElem?_append_left hjl]; exact hj
  · have hjl := (List.getElem?_eq_some_iff.1 hj).1
    rw [h.cell, show 17 + j = (16 + j) + 1 by omega, pktC, List.getElem?_cons_succ, List.getElem?_append_right (by simp [hf]), List.length_map, hf, show 16 + j - 16 = j by omega, List.getElem?_append_left hjl]; exact hj
  · rw [h.cell 33]
    simp only [pktC, List.getElem?_cons_succ]
    rw [List.getElem?_append_right (by simp [hf]), List.length_map, hf, List.getElem?_append_right (by simp [ht]), List.length_map, ht]
    rfl
set_option maxRecDepth 100000 in
set_option maxHeartbeats 1000000 in
theorem pksize_any (kind : Int) (f t : List Int) (ps : List Piece) (A : Option Addr) (n c : Nat) (w : World) (hps : Ps w A n ps) (hf : f.length = 16) (ht : t.length = 16) (hlim : psSize ps ≤ 281474976710656) :
    Calls Tryz.prog 5 #[.agg (pktC kind f t (.slice A n c)).toArray] w fun e w' => e = .returned (.int .i64 (pkSize ps : Int)) ∧ Below w.heap.size w w' := by
  have hbox := Blk.new w 27 (pktC kind f t (.slice A n c))
  obtain ⟨_, _, _, c33⟩ := pkt_parts hbox hf ht
  have hB0 := new_belowB w (.cells (pktC kind f t (.slice A n c)).toArray 27)
  have hcall := pssize_any A n c ps _ (hps.below hB0)
  generalize hW : w.alloc (.cells (pktC kind f t (.slice A n c)).toArray 27) = w1 at *
  obtain ⟨X, hX⟩ : ∃ X, pktC kind f t (.slice A n c) = X := ⟨_, rfl⟩
  rw [hX] at hW ⊢
  have HB0 := Lib.hid hB0
  have HC := Lib.hid hcall
  have hw : IntKind.i64.wrap (1 + (psSize ps : Int)) = (pkSize ps : Int) := by unfold pkSize; rw [IntWalk.i64_in _ (by omega)]; omega
  clear hB0 hcall hbox hX hps
  go_enter Tryz.func5, Tryz.ntmps5
  go_wp2_with (refine wpList_value (o := ⟨some 1, .box 27 _, _, _, _, _⟩) (v := .pointer (some ⟨w.heap.size, 0, none⟩)) (w' := w.alloc (.cells X.toArray 27)) rfl (by rfl) ?_; rw [hW])
  refine HC.out.mono ?_; rintro e w2 ⟨rfl, hB2⟩
  have HB2 := Lib.hid (HB0.out.trans (hB2.mono HB0.out.size))
  clear hB2
  go_wp2_with fail
  go_ret
  exact ⟨rfl, HB2.out⟩

theorem list16 {tag : List Int} (h : tag.length = 16) : ∃ x0 x1 x2 x3 x4 x5 x6 x7 x8 x9 x10 x11 x12 x13 x14 x15, tag = [x0, x1, x2, x3, x4, x5, x6, x7, x8, x9, x10, x11, x12, x13, x14, x15] := by
  match tag, h with
  | [x0, x1, x2, x3, x4, x5, x6, x7, x8, x9, x10, x11, x12, x13, x14, x15], _ => exact ⟨x0, x1, x2, x3, x4, x5, x6, x7, x8, x9, x10, x11, x12, x13, x14, x15, rfl⟩
theorem run_build_pkt (kind : Int) (f t : List Int) (B : Option Addr) (n c : Nat) (hf : f.length = 16) (ht : t.length = 16) (W : World) :
    (Instr.build 27 #[(0, .int .u8 kind), (1, .agg (f.map (Value.int .u8)).toArray), (2, .agg (t.map (Value.int .u8)).toArray), (3, .slice B n c)]).run Tryz.prog W = .ok (.agg (pktC kind f t (.slice B n c)).toArray) W := by
  obtain ⟨x0, x1, x2, x3, x4, x5, x6, x7, x8, x9, x10, x11, x12, x13, x14, x15, rfl⟩ := list16 hf
  obtain ⟨y0, y1, y2, y3, y4, y5, y6, y7, y8, y9, y10, y11, y12, y13, y14, y15, rfl⟩ := list16 ht
  kernel_rfl
theorem exec_alloc_pkt (W : World) (o : Oper) (ho : o.op = .alloc 27) (ev : Operand → Value) : (execOp ev o).run Tryz.prog W = .ok (.value (.pointer (some ⟨W.heap.size, 0, none⟩))) (W.alloc (.cells zPkt.toArray 27)) := by
  obtain ⟨d, op, t, p, af, g⟩ := o
  simp only at ho
  subst ho
  kernel_rfl

/-- A packet's twin. -/
def TwinPk (w : World) (kind : Int) (f t : List Int) (ps : List Piece) (n : Nat) (e : Ending) (w' : World) : Prop :=
  ∃ B cap cells, e = .returned (.agg (pktC kind f t (.slice B n cap)).toArray) ∧ PsTwin w.heap.size w' B ps cap cells ∧ Below w.heap.size w w'
set_option maxRecDepth 100000 in
set_option maxHeartbeats 2000000 in
theorem twinpk_any (kind : Int) (f t : List Int) (ps : List Piece) (A : Option Addr) (n c : Nat) (w : World) (hps : Ps w A n ps) (hf : f.length = 16) (ht : t.length = 16) (hlen : ∀ p ∈ ps, p.2.length ≤ 70368744177664) (hn : n < 1099511627776) :
    Calls Tryz.prog 7 #[.agg (pktC kind f t (.slice A n c)).toArray] w (TwinPk w kind f t ps n) := by
  obtain ⟨X, hX⟩ : ∃ X, pktC kind f t (.slice A n c) = X := ⟨_, rfl⟩
  obtain ⟨Z, hZ⟩ : ∃ Z, zPkt = Z := ⟨_, rfl⟩
  have hZl : Z.length = 34 := by rw [← hZ]; exact pktC_length rfl rfl
  obtain ⟨w2, hw2⟩ : ∃ w2, (w.alloc (.cells X.toArray 27)).alloc (.cells Z.toArray 27) = w2 := ⟨_, rfl⟩
  have hk1 : Blk w2 w.heap.size 27 X := by rw [← hw2]; exact (Blk.new w 27 X).alloc _
  have hk2 : Blk w2 (w.heap.size + 1) 27 Z := by
    rw [← hw2]
    have := Blk.new (w.alloc (.cells X.toArray 27)) 27 Z
    rwa [World.size_alloc] at this
  have hB : Below w.heap.size w w2 := by rw [← hw2]; exact ((Below.refl _ _).alloc (Nat.le_refl _) _).alloc (by simp) _
  obtain ⟨a0, a1, a2, a3⟩ := pkt_parts (by rw [hX]; exact hk1) hf ht
  have htw := twinps_any A n c ps w2.drew ((hps.below hB).below (drew_belowB w2)) hlen hn
  have hfs : (Tryz.prog.info? 24).map (·.size) = some (f.map (Value.int .u8)).length := by rw [List.length_map, hf]; kernel_rfl
  have hts : (Tryz.prog.info? 24).map (·.size) = some (t.map (Value.int .u8)).length := by rw [List.length_map, ht]; kernel_rfl
  have hu : Tryz.prog.underlying 24 = some (.array 16 5) := Tryz.underlying24
  have hbld := fun B cap W => run_build_pkt kind f t B n cap hf ht W
  have hs34 : ∀ B cap, (Tryz.prog.info? 27).map (·.size) = some (pktC kind f t (.slice B n cap)).toArray.size := fun B cap => by rw [List.size_toArray, pktC_length hf ht]; exact info_pkt
  have hone : ∀ B cap, (pktC kind f t (.slice B n cap)).toArray.all (·.oneCell') = true := fun B cap => all_oneCell_toArray pktC_one
  have hlenY : ∀ B cap, (pktC kind f t (.slice B n cap)).length = Z.length := fun B cap => by rw [hZl]; exact pktC_length hf ht
  have HZL := Lib.hid hZl
  have HBLD := Lib.hid hbld
  have HS34 := Lib.hid hs34
  have HONE := Lib.hid hone
  have HLY := Lib.hid hlenY
  have HFS := Lib.hid hfs
  have HTS := Lib.hid hts
  have HU := Lib.hid hu
  have HTW := Lib.hid htw
  have HK1 := Lib.hid hk1
  have HK2 := Lib.hid hk2
  have HB := Lib.hid hB
  have HA1 := Lib.hid a1
  have HA2 := Lib.hid a2
  have HXE := Lib.hid hX
  have hPz : w.heap.size + 1 < w2.heap.size := hk2.lt
  have HPZ := Lib.hid hPz
  rw [hX]
  obtain ⟨F, hF⟩ : ∃ F, f.map (Value.int .u8) = F := ⟨_, rfl⟩
  obtain ⟨T, hT⟩ : ∃ T, t.map (Value.int .u8) = T := ⟨_, rfl⟩
  rw [hF] at HFS HA1 a1 HBLD
  rw [hT] at HTS HA2 a2 HBLD
  have HPARTS : Hid (∀ W, Blk W w.heap.size 27 X → W.cell? ⟨w.heap.size, 0, none⟩ = some (.int .u8 kind) ∧ W.rangeAt w.heap.size 1 F ∧ W.rangeAt w.heap.size 17 T ∧ W.cell? ⟨w.heap.size, 33, none⟩ = some (.slice A n c)) := Lib.hid (fun W h => by
    have := pkt_parts (W := W) (g := w.heap.size) (kind := kind) (f := f) (t := t) (v := .slice A n c) (by rw [HXE.out]; exact h) hf ht
    rw [hF, hT] at this
    exact this)
  clear hfs hts hu htw hk1 hk2 hB hX hF hT hps hZl hbld hs34 hone hlenY hPz hlen
  go_enter Tryz.func7, Tryz.ntmps7
  go_wp2_with (first
    | (refine wpList_value (o := ⟨some 1, .box 27 _, _, _, _, _⟩) (v := .pointer (some ⟨w.heap.size, 0, none⟩)) (w' := w.alloc (.cells X.toArray 27)) rfl (by rfl) ?_)
    | (refine wpList_value (o := ⟨some 2, .alloc 27, _, _, _, _⟩) (v := .pointer (some ⟨(w.alloc (.cells X.toArray 27)).heap.size, 0, none⟩)) (w' := (w.alloc (.cells X.toArray 27)).alloc (.cells Z.toArray 27)) rfl (by rw [← hZ]; exact exec_alloc_pkt _ _ rfl _) ?_; rw [World.size_alloc, hw2]))
  obtain ⟨P, hP⟩ : ∃ P, w.heap.size = P := ⟨_, rfl⟩
  rw [hP] at HPARTS HA1 HA2 HB HK1 HK2 a0 a1 a2 a3 HPZ ⊢
  have HP := Lib.hid hP
  clear hP hw2 hZ
  refine wp_region_noPanic ?_
  refine wp_region_held_drew (S := (fun w' => w'.cell? ⟨P, 0, none⟩ = some (.int .u8 kind) ∧ w'.rangeAt P 1 F ∧ w'.rangeAt P 17 T ∧ w'.cell? ⟨P, 33, none⟩ = some (.slice A n c))) (by kernel_rfl) ?_ (fun hHeld => ?_)
  · ((try dsimp only); refine ⟨?_, ?_, ?_, ?_⟩ <;> (first | assumption | (go_keep; done)))
  refine wpAnyH_take (i := 0) (oi := ⟨some 3, _, _, _, _, _⟩) (v := ?_) rfl (by kernel_rfl) (by kernel_rfl) (by kernel_rfl) (fun _ _ _ h => False.elim h) (Or.inl ⟨by rfl, ?_⟩) (by assumption) ?_
  rotate_left
  · intro w hSw
    (try dsimp only at hSw)
    go_simp
    all_goals with_reducible rfl
  (try simp only [Act.put, List.setIfInBounds_toArray, List.set_cons_zero, List.set_cons_succ])
  refine wpAnyH_take (i := 1) (oi := ⟨some 4, _, _, _, _, _⟩) (v := ?_) rfl (by kernel_rfl) (by kernel_rfl) (by kernel_rfl) (fun _ _ _ h => False.elim h) (Or.inl ⟨by rfl, ?_⟩) (by assumption) ?_
  rotate_left
  · intro w hSw
    (try dsimp only at hSw)
    go_simp
    all_goals with_reducible rfl
  (try simp only [Act.put, List.setIfInBounds_toArray, List.set_cons_zero, List.set_cons_succ])
  refine wpAnyH_take (i := 2) (oi := ⟨some 5, _, _, _, _, _⟩) (v := ?_) rfl (by kernel_rfl) (by kernel_rfl) (by kernel_rfl) (fun _ _ _ h => False.elim h) (Or.inl ⟨by rfl, ?_⟩) (by assumption) ?_
  rotate_left
  · intro w hSw
    (try dsimp only at hSw)
    go_simp
    all_goals with_reducible rfl
  (try simp only [Act.put, List.setIfInBounds_toArray, List.set_cons_zero, List.set_cons_succ])
  refine wpAnyH_take (i := 3) (oi := ⟨some 6, _, _, _, _, _⟩) (v := .agg F.toArray) rfl (by kernel_rfl) (by kernel_rfl) (by kernel_rfl) (fun _ _ _ h => False.elim h) ?_ (by assumption) ?_
  · refine yieldsIf_load_mid ?_ 24 _ rfl P 1 rfl F _ ?_ HU.out rfl HFS.out
    · rfl
    · (intro w hSw; (try dsimp only at hSw); go_split_ands; assumption)
  (try simp only [Act.put, List.setIfInBounds_toArray, List.set_cons_zero, List.set_cons_succ])
  refine wpAnyH_take (i := 4) (oi := ⟨some 7, _, _, _, _, _⟩) (v := ?_) rfl (by kernel_rfl) (by kernel_rfl) (by kernel_rfl) (fun _ _ _ h => False.elim h) (Or.inl ⟨by rfl, ?_⟩) (by assumption) ?_
  rotate_left
  · intro w hSw
    (try dsimp only at hSw)
    go_simp
    all_goals with_reducible rfl
  (try simp only [Act.put, List.setIfInBounds_toArray, List.set_cons_zero, List.set_cons_succ])
  refine wpAnyH_take (i := 5) (oi := ⟨some 8, _, _, _, _, _⟩) (v := .agg T.toArray) rfl (by kernel_rfl) (by kernel_rfl) (by kernel_rfl) (fun _ _ _ h => False.elim h) ?_ (by assumption) ?_
  · refine yieldsIf_load_mid ?_ 24 _ rfl P 17 rfl T _ ?_ HU.out rfl HTS.out
    · rfl
    · (intro w hSw; (try dsimp only at hSw); go_split_ands; assumption)
  (try simp only [Act.put, List.setIfInBounds_toArray, List.set_cons_zero, List.set_cons_succ])
  refine wpAnyH_take (i := 6) (oi := ⟨some 9, _, _, _, _, _⟩) (v := ?_) rfl (by kernel_rfl) (by kernel_rfl) (by kernel_rfl) (fun _ _ _ h => False.elim h) (Or.inl ⟨by rfl, ?_⟩) (by assumption) ?_
  rotate_left
  · intro w hSw
    (try dsimp only at hSw)
    go_simp
    all_goals with_reducible rfl
  (try simp only [Act.put, List.setIfInBounds_toArray, List.set_cons_zero, List.set_cons_succ])
  refine wpAnyH_take (i := 7) (oi := ⟨some 10, _, _, _, _, _⟩) (v := ?_) rfl (by kernel_rfl) (by kernel_rfl) (by kernel_rfl) (fun _ _ _ h => False.elim h) (Or.inl ⟨by rfl, ?_⟩) (by assumption) ?_
  rotate_left
  · intro w hSw
    (try dsimp only at hSw)
    go_simp
    all_goals with_reducible rfl
  (try simp only [Act.put, List.setIfInBounds_toArray, List.set_cons_zero, List.set_cons_succ])
  refine wpAnyH_ready (rs := [8]) (by kernel_rfl) (by simp) ?_
  refine AllReadyH.cons (o := ⟨some 11, _, _, _, _, _⟩) rfl (fun K hK => ?_) AllReadyH.nil
  go_simp
  (refine HTW.out.mono ?_; rintro e wm ⟨B, cap, cells, rfl, htwin, hBm⟩; obtain ⟨b0, b1, b2, b3⟩ := HPARTS.out wm (HK1.out.drew.below hBm HK1.out.lt); have HKM := Lib.hid (HK2.out.drew.below hBm HK2.out.lt); have HPS : Hid (∀ vs, (wm.setCells (P + 1) 0 vs).cell? ⟨P, 0, none⟩ = some (.int .u8 kind) ∧ (wm.setCells (P + 1) 0 vs).rangeAt P 1 F ∧ (wm.setCells (P + 1) 0 vs).rangeAt P 17 T ∧ (wm.setCells (P + 1) 0 vs).cell? ⟨P, 33, none⟩ = some (.slice A n c)) := Lib.hid (fun vs => HPARTS.out _ ((HK1.out.drew.below hBm HK1.out.lt).keep (Keeps.setCells (g := P + 1) vs 0 wm) (by omega))); have HTWIN := Lib.hid htwin; have HBM := Lib.hid hBm; clear htwin hBm; obtain ⟨Y, hY⟩ : ∃ Y, pktC kind f t (.slice B n cap) = Y := ⟨_, rfl⟩; have HY := Lib.hid hY; have HBLDB := Lib.hid (HBLD.out B cap); have HS34B := Lib.hid (HS34.out B cap); have HONEB := Lib.hid (HONE.out B cap); have HLYB := Lib.hid (HLY.out B cap); rw [hY] at HBLDB HS34B HONEB HLYB; clear hY)
  (try go_wp2_with fail)
  refine hK.out _ _ ?_ (fun hHeld => ?_)
  · ((try dsimp only); refine ⟨?_, ?_, ?_, ?_⟩ <;> (first | assumption | (go_keep; done)))
  clear hK K
  (try simp only [Act.put, List.setIfInBounds_toArray, List.set_cons_zero, List.set_cons_succ])
  refine wpAnyH_take (i := 9) (oi := ⟨some 12, _, _, _, _, _⟩) (v := .agg Y.toArray) rfl (by kernel_rfl) (by kernel_rfl) (by kernel_rfl) (fun _ _ _ h => False.elim h) ?_ (by assumption) ?_
  · exact yieldsIf_buildG (by rfl) 27 _ rfl _ (fun W => by simpa [Act.eval] using HBLDB.out W)
  (try simp only [Act.put, List.setIfInBounds_toArray, List.set_cons_zero, List.set_cons_succ])
  refine wpAnyH_ready (rs := [10]) (by kernel_rfl) (by simp) ?_
  refine AllReadyH.cons (o := ⟨none, _, _, _, _, _⟩) rfl (fun K hK => ?_) AllReadyH.nil
  (refine step_store_row rfl 27 _ _ rfl (P + 1) 0 Y.toArray rfl rfl (HKM.out.there 0 _ (by rw [List.size_toArray, HLYB.out]; omega)) HS34B.out HONEB.out ?_; obtain ⟨d0, d1, d2, d3⟩ := HPS.out Y.toArray.toList)
  refine hK.out _ _ ?_ (fun hHeld => ?_)
  · ((try dsimp only); refine ⟨?_, ?_, ?_, ?_⟩ <;> (first | assumption | (go_keep; done)))
  clear hK K
  (try simp only [Act.put, List.setIfInBounds_toArray, List.set_cons_zero, List.set_cons_succ])
  refine wpAnyH_done (by kernel_rfl) ?_ _
  refine NoPanic.normal ?_
  go_wp2_with fail
  have hset : Keeps (· = P + 1) wm (wm.setCells (P + 1) 0 Y) := Keeps.setCells _ _ _
  have hkf : Blk (wm.setCells (P + 1) 0 Y) (P + 1) 27 Y := by
    have := Blk.setCells Y 0 wm _ HKM.out (by rw [HLYB.out]; omega)
    rwa [splice_whole Z Y HLYB.out] at this
  have hpz : P + 1 < w2.heap.size := HPZ.out
  have hz : P ≤ w2.drew.heap.size := by show P ≤ w2.heap.size; omega
  have htw2 : PsTwin P wm B ps cap cells := by
    have h := HTWIN.out
    obtain ⟨g, e, h1, h2⟩ := h.at_
    exact ⟨⟨g, e, Nat.le_trans hz h1, h2⟩, h.capm, own_lower h.row hz, fun j t body hj => by
      obtain ⟨B', c', q1, q2, gq, q3, q4, q5, q6, q7, q8⟩ := h.body j t body hj
      exact ⟨B', c', q1, q2, gq, q3, q4, q5, Nat.le_trans hz q6, q7, own_lower q8 hz⟩, h.unlike⟩
  have htw3 := htw2.keep hset (fun k cur _ hc e => by
    rw [e] at hc
    rcases hc with hc | hc
    · exact absurd (ty_one hc HKM.out) (by decide)
    · exact absurd (ty_one hc HKM.out) (by decide))
  have hBm : Below P w wm := HB.out.trans (Below.mono ((drew_belowB w2).trans HBM.out) (show P ≤ w2.heap.size by omega))
  refine bodyPost_ret (results_cell_row rfl _ _ (P + 1) _ Y.toArray _ _ rfl hkf Tryz.underlying27 rfl HS34B.out) rfl ?_
  unfold TwinPk
  rw [HP.out]
  exact ⟨B, cap, cells, by rw [HY.out], htw3, below_keeps hBm hset (by rw [HP.out]; exact Nat.le_refl _) (fun i hi => by omega)⟩

set_option maxRecDepth 100000 in
set_option maxHeartbeats 1000000 in
theorem bpacket_bk (base base' B m : Nat) (H : Nat → List Hb) (kind : Int) (f t : List Int) (A : Option Addr) (n c : Nat) (ps : List Piece) (cells : List Value) (w : World) (hf16 : f.length = 16) (ht16 : t.length = 16) (hb : BookAt base w B m H) (hbase : base ≤ w.heap.size) (ho : PsOwn base' w (.slice A n c) ps cells) (hn : ps.length = n) (hf : m + n + 1 ≤ 30000) :
    Calls Tryz.prog 10 #[.pointer (some ⟨B, 0, none⟩), .agg (pktC kind f t (.slice A n c)).toArray] w fun e w' => e = .returned (.tuple #[]) ∧ BookAt base w' B (m + n + 1) (upd (upd H 1 (H 1 ++ bodyH cells m n)) 10 (H 10 ++ [⟨A, n, c, none, 0, 0, m + n + 1⟩])) ∧ Keeps (fun i => i = B ∨ ByTy base 93 w i ∨ ByTy base 133 w i) w w' := by
  have hbox := Blk.new w 27 (pktC kind f t (.slice A n c))
  obtain ⟨_, _, _, c33⟩ := pkt_parts hbox hf16 ht16
  have hB1 := new_belowB w (.cells (pktC kind f t (.slice A n c)).toArray 27)
  have hcall := bparams_bk base base' B m H A n c ps cells _ (hb.below hB1) (Nat.le_trans hbase hB1.size) (ho.below hB1) hn hf
  generalize hW : w.alloc (.cells (pktC kind f t (.slice A n c)).toArray 27) = w1 at *
  obtain ⟨X, hX⟩ : ∃ X, pktC kind f t (.slice A n c) = X := ⟨_, rfl⟩
  rw [hX] at hW ⊢
  have HB1 := Lib.hid hB1
  have HC := Lib.hid hcall
  clear hB1 hcall hbox hX ho hb hn
  go_enter Tryz.func10, Tryz.ntmps10
  go_wp2_with (refine wpList_value (o := ⟨some 3, .box 27 _, _, _, _, _⟩) (v := .pointer (some ⟨w.heap.size, 0, none⟩)) (w' := w.alloc (.cells X.toArray 27)) rfl (by rfl) ?_; rw [hW])
  refine HC.out.mono ?_; rintro e w2 ⟨rfl, hb2, hk2⟩
  have HB2 := Lib.hid hb2
  have HK2 : Hid (Keeps (fun i => i = B ∨ ByTy base 93 w i ∨ ByTy base 133 w i) w w2) := Lib.hid ((Keeps.of_below HB1.out).then_ hk2 (fun i hi => by
    rcases Nat.lt_or_ge i w.heap.size with h9 | h9
    · refine .inl ?_
      rcases hi with rfl | (⟨hbi, cur, hc⟩ | hi) | (⟨hbi, cur, hc⟩ | hi)
      · exact .inl rfl
      · exact .inr (.inl (.inl ⟨hbi, cur, (HB1.out.block i h9).symm.trans hc⟩))
      · have := HB1.out.size; omega
      · exact .inr (.inr (.inl ⟨hbi, cur, (HB1.out.block i h9).symm.trans hc⟩))
      · have := HB1.out.size; omega
    · exact .inr h9))
  clear hb2 hk2
  go_wp2_with fail
  go_end0
  exact ⟨rfl, HB2.out, HK2.out⟩

set_option maxRecDepth 100000 in
set_option maxHeartbeats 2000000 in
theorem leftpk_any (base : Nat) (kind : Int) (f t : List Int) (ps : List Piece) (A1 A2 : Option Addr) (n c1 c2 : Nat) (cells : List Value) (w : World) (p1 : PsTwin base w A1 ps c1 cells) (p2 : Ps w A2 n ps) (hok : ∀ p ∈ ps, okPiece p) (hlen : ∀ p ∈ ps, p.2.length ≤ 70368744177664) (hf : f.length = 16) (ht : t.length = 16) :
    Calls Tryz.prog 13 #[.agg (pktC kind f t (.slice A1 n c1)).toArray, .agg (pktC kind f t (.slice A2 n c2)).toArray] w fun e w' => e = .returned (.bool true) ∧ Below w.heap.size w w' := by
  obtain ⟨X1, hX1⟩ : ∃ X, pktC kind f t (.slice A1 n c1) = X := ⟨_, rfl⟩
  obtain ⟨X2, hX2⟩ : ∃ X, pktC kind f t (.slice A2 n c2) = X := ⟨_, rfl⟩
  have k1 : Blk ((w.alloc (.cells X1.toArray 27)).alloc (.cells X2.toArray 27)) w.heap.size 27 X1 := (Blk.new w 27 X1).alloc _
  have k2 : Blk ((w.alloc (.cells X1.toArray 27)).alloc (.cells X2.toArray 27)) (w.heap.size + 1) 27 X2 := by
    have := Blk.new (w.alloc (.cells X1.toArray 27)) 27 X2
    rwa [World.size_alloc] at this
  have hB : Below w.heap.size w ((w.alloc (.cells X1.toArray 27)).alloc (.cells X2.toArray 27)) := ((Below.refl _ _).alloc (Nat.le_refl _) _).alloc (by simp) _
  obtain ⟨a0, a1, a2, a3⟩ := pkt_parts (by rw [hX1]; exact k1) hf ht
  obtain ⟨b0, b1, b2, b3⟩ := pkt_parts (by rw [hX2]; exact k2) hf ht
  have hs := leftps_any base A1 A2 c1 n c2 cells ps _ (p1.below hB) (p2.below hB) hok hlen
  have hfe := tag_same f hf
  have hte := tag_same t ht
  have hfs : (Tryz.prog.info? 24).map (·.size) = some (f.map (Value.int .u8)).length := by rw [List.length_map, hf]; kernel_rfl
  have hts : (Tryz.prog.info? 24).map (·.size) = some (t.map (Value.int .u8)).length := by rw [List.length_map, ht]; kernel_rfl
  have hu : Tryz.prog.underlying 24 = some (.array 16 5) := Tryz.underlying24
  generalize f.map (Value.int .u8) = F at *
  generalize t.map (Value.int .u8) = T at *
  rw [hX1, hX2]
  generalize hW : (w.alloc (.cells X1.toArray 27)).alloc (.cells X2.toArray 27) = w1 at *
  have HS := Lib.hid hs
  have HB := Lib.hid hB
  have HA1 := Lib.hid a1
  have HA2 := Lib.hid a2
  have HB1 := Lib.hid b1
  have HB2 := Lib.hid b2
  have HFS := Lib.hid hfs
  have HTS := Lib.hid hts
  have HU := Lib.hid hu
  clear hs hB a1 a2 b1 b2 hfs hts hu hX1 hX2 k1 k2 p1 p2
  go_enter Tryz.func13, Tryz.ntmps13
  go_wp2_with (first
    | (refine wpList_value (o := ⟨some 2, .box 27 _, _, _, _, _⟩) (v := .pointer (some ⟨w.heap.size, 0, none⟩)) (w' := w.alloc (.cells X1.toArray 27)) rfl (by rfl) ?_)
    | (refine wpList_value (o := ⟨some 3, .box 27 _, _, _, _, _⟩) (v := .pointer (some ⟨(w.alloc (.cells X1.toArray 27)).heap.size, 0, none⟩)) (w' := (w.alloc (.cells X1.toArray 27)).alloc (.cells X2.toArray 27)) rfl (by rfl) ?_; rw [World.size_alloc, hW])
    | (refine wpList_load_want (by rfl) 24 _ rfl w.heap.size 1 rfl F _ HA1.out HU.out rfl HFS.out ?_)
    | (refine wpList_load_want (by rfl) 24 _ rfl w.heap.size 17 rfl T _ HA2.out HU.out rfl HTS.out ?_)
    | (refine wpList_load_want (by rfl) 24 _ rfl (w.heap.size + 1) 1 rfl F _ HB1.out HU.out rfl HFS.out ?_)
    | (refine wpList_load_want (by rfl) 24 _ rfl (w.heap.size + 1) 17 rfl T _ HB2.out HU.out rfl HTS.out ?_))
  refine HS.out.mono ?_; rintro e w2 ⟨rfl, hB2⟩
  have HB3 := Lib.hid (HB.out.trans (hB2.mono HB.out.size))
  clear hB2
  go_wp2_with fail
  go_ret
  exact ⟨rfl, HB3.out⟩
end Go.Proofs.YtjikjdignhdipaaGreatDoor
