/- The walk over SamePacket: what is the same is told to be; The walks over PacketSize, TwinPacket, LeftPacket. -/
import Derived.Test.YtjikjdignhdipaaGreatDoorZRPacketsPut18
import Derived.Test.YtjikjdignhdipaaGreatDoorZRPacketsPut22
import Derived.Test.YtjikjdignhdipaaGreatDoorZRPacketsPut23
import Derived.Test.YtjikjdignhdipaaGreatDoorZRPacketsPut12
namespace Go.Proofs.YtjikjdignhdipaaGreatDoor
open Go.RowKit
set_option linter.unusedSimpArgs false
set_option linter.unusedVariables false

theorem size_u8k : ∀ w, (sizeOf 5).run Tryz.prog w = .ok 1 w := fun w => by kernel_rfl
theorem tag_same (f : List Int) (hf : f.length = 16) (w : World) : Sem.run Tryz.prog (Op.equalIn 10000 24 (.agg (f.map (Value.int .u8)).toArray) (.agg (f.map (Value.int .u8)).toArray)) w = .ok true w := by
  have := run_equalIn_ints (P := Tryz.prog) w 9998 24 5 16 .u8 Tryz.underlying24 Tryz.underlying5 size_u8k f f hf hf
  simpa using this

set_option maxRecDepth 100000 in
set_option maxHeartbeats 4000000 in
theorem samepk_any (kind : Int) (f t : List Int) (ps : List Piece) (A1 A2 : Option Addr) (n1 c1 n2 c2 : Nat) (w : World) (p1 : Ps w A1 n1 ps) (p2 : Ps w A2 n2 ps) (hf : f.length = 16) (ht : t.length = 16) :
    Calls Tryz.prog 18 #[.agg (pktC kind f t (.slice A1 n1 c1)).toArray, .agg (pktC kind f t (.slice A2 n2 c2)).toArray] w fun e w' => e = .returned (.bool true) ∧ Below w.heap.size w w' := by
  obtain ⟨X1, hX1⟩ : ∃ X, pktC kind f t (.slice A1 n1 c1) = X := ⟨_, rfl⟩
  obtain ⟨X2, hX2⟩ : ∃ X, pktC kind f t (.slice A2 n2 c2) = X := ⟨_, rfl⟩
  have part : ∀ (W : World) (g : Nat) (A : Option Addr) (n c : Nat), Blk W g 27 (pktC kind f t (.slice A n c)) → W.cell? ⟨g, 0, none⟩ = some (.int .u8 kind) ∧ W.rangeAt g 1 (f.map (Value.int .u8)) ∧ W.rangeAt g 17 (t.map (Value.int .u8)) ∧ W.cell? ⟨g, 33, none⟩ = some (.slice A n c) := by
    intro W g A n c h
    refine ⟨h.cell 0, fun j v hj => ?_, fun j v hj => ?_, ?_⟩
    · have hjl := (List.getElem?_eq_some_iff.1 hj).1
      rw [h.cell, Nat.add_comm, pktC, List.getElem?_cons_succ, List.getElem?_append_left hjl]; exact hj
    · have hjl := (List.getElem?_eq_some_iff.1 hj).1
      rw [h.cell, show 17 + j = (16 + j) + 1 by omega, pktC, List.getElem?_cons_succ, List.getElem?_append_right (by simp [hf]), List.length_map, hf, show 16 + j - 16 = j by omega, List.getElem?_append_left hjl]; exact hj
    · rw [h.cell 33]
      simp only [pktC, List.getElem?_cons_succ]
      rw [List.getElem?_append_right (by simp [hf]), List.length_map, hf, List.getElem?_append_right (by simp [ht]), List.length_map, ht]
      rfl
  have k1 : Blk ((w.alloc (.cells X1.toArray 27)).alloc (.cells X2.toArray 27)) w.heap.size 27 X1 := (Blk.new w 27 X1).alloc _
  have k2 : Blk ((w.alloc (.cells X1.toArray 27)).alloc (.cells X2.toArray 27)) (w.heap.size + 1) 27 X2 := by
    have := Blk.new (w.alloc (.cells X1.toArray 27)) 27 X2
    rwa [World.size_alloc] at this
  have hB : Below w.heap.size w ((w.alloc (.cells X1.toArray 27)).alloc (.cells X2.toArray 27)) := ((Below.refl _ _).alloc (Nat.le_refl _) _).alloc (by simp) _
  obtain ⟨a0, a1, a2, a3⟩ := part _ _ A1 n1 c1 (by rw [hX1]; exact k1)
  obtain ⟨b0, b1, b2, b3⟩ := part _ _ A2 n2 c2 (by rw [hX2]; exact k2)
  have hs := sameps_any A1 A2 n1 c1 n2 c2 ps _ (p1.below hB) (p2.below hB)
  have hfe := tag_same f hf
  have hte := tag_same t ht
  have hfs : (Tryz.prog.info? 24).map (·.size) = some (f.map (Value.int .u8)).length := by rw [List.length_map, hf]; kernel_rfl
  have hts : (Tryz.prog.info? 24).map (·.size) = some (t.map (Value.int .u8)).length := by rw [List.length_map, ht]; kernel_rfl
  have hu : Tryz.prog.underlying 24 = some (.array 16 5) := Tryz.underlying24
  generalize f.map (Value.int .u8) = F at *
  generalize t.map (Value.int .u8) = T at *
  rw [hX1, hX2]
  generalize hW : (w.alloc (.cells X1.toArray 27)).alloc (.cells X2.toArray 27) = w1 at *
  have HS := Lib.hid hs
  have HB := Lib.hid hB
  have HA1 := Lib.hid a1
  have HA2 := Lib.hid a2
  have HB1 := Lib.hid b1
  have HB2 := Lib.hid b2
  have HFS := Lib.hid hfs
  have HTS := Lib.hid hts
  have HU := Lib.hid hu
  clear hs hB a1 a2 b1 b2 hfs hts hu hX1 hX2 k1 k2 part p1 p2
  go_enter Tryz.func18, Tryz.ntmps18
  go_wp2_with (first
    | (refine wpList_value (o := ⟨some 2, .box 27 _, _, _, _, _⟩) (v := .pointer (some ⟨w.heap.size, 0, none⟩)) (w' := w.alloc (.cells X1.toArray 27)) rfl (by rfl) ?_)
    | (refine wpList_value (o := ⟨some 3, .box 27 _, _, _, _, _⟩) (v := .pointer (some ⟨(w.alloc (.cells X1.toArray 27)).heap.size, 0, none⟩)) (w' := (w.alloc (.cells X1.toArray 27)).alloc (.cells X2.toArray 27)) rfl (by rfl) ?_; rw [World.size_alloc, hW])
    | (refine wpList_load_want (by rfl) 24 _ rfl w.heap.size 1 rfl F _ HA1.out HU.out rfl HFS.out ?_)
    | (refine wpList_load_want (by rfl) 24 _ rfl w.heap.size 17 rfl T _ HA2.out HU.out rfl HTS.out ?_)
    | (refine wpList_load_want (by rfl) 24 _ rfl (w.heap.size + 1) 1 rfl F _ HB1.out HU.out rfl HFS.out ?_)
    | (refine wpList_load_want (by rfl) 24 _ rfl (w.heap.size + 1) 17 rfl T _ HB2.out HU.out rfl HTS.out ?_))
  refine HS.out.mono ?_; rintro e w2 ⟨rfl, hB2⟩
  have HB3 := Lib.hid (HB.out.trans (hB2.mono HB.out.size))
  clear hB2
  go_wp2_with fail
  go_ret
  exact ⟨rfl, HB3.out⟩
end Go.Proofs.YtjikjdignhdipaaGreatDoor

namespace Go.Proofs.YtjikjdignhdipaaGreatDoor
open Go.RowKit
set_option linter.unusedSimpArgs false
set_option linter.unusedVariables false

/-- How much is counted of pieces, beyond most no more. -/
def cntP : Nat → List Piece → Nat
  | n, [] => n
  | n, p :: l => if n ≤ 1048576 then cntP (n + (1 + p.2.length)) l else n
def psSize (ps : List Piece) : Nat := cntP ps.length ps
def pkSize (ps : List Piece) : Nat := 1 + psSize ps
theorem cntP_mono : ∀ (l : List Piece) (n : Nat), n ≤ cntP n l
  | [], n => Nat.le_refl _
  | p :: l, n => by
    rw [cntP]; split
    · have := cntP_mono l (n + (1 + p.2.length)); omega
    · exact Nat.le_refl _
theorem cntP_small : ∀ (l : List Piece) (n : Nat), cntP n l ≤ 1048576 → ∀ p ∈ l, p.2.length + 1 ≤ cntP n l
  | [], n, _, p, hp => by simp at hp
  | q :: l, n, h, p, hp => by
    rw [cntP] at h ⊢
    split
    · rename_i hn
      rw [if_pos hn] at h
      rcases List.mem_cons.1 hp with rfl | hp
      · have := cntP_mono l (n + (1 + p.2.length)); omega
      · exact cntP_small l _ h p hp
    · rename_i hn
      rw [if_neg hn] at h
      omega
theorem cntP_le (M : Nat) : ∀ (l : List Piece) (n : Nat), (∀ p ∈ l, p.2.length ≤ M) → n ≤ 1048577 + M + 4398046510976 → cntP n l ≤ 1048577 + M + 4398046510976
  | [], n, _, h => h
  | p :: l, n, hl, h => by
    rw [cntP]; split
    · refine cntP_le M l _ (fun q hq => hl q (by simp [hq])) ?_
      have := hl p (by simp)
      omega
    · exact h
theorem cntP_drop (n : Nat) (ps : List Piece) (k : Nat) (p : Piece) (hp : ps[k]? = some p) (hn : n ≤ 1048576) : cntP n (ps.drop k) = cntP (n + (1 + p.2.length)) (ps.drop (k + 1)) := by
  have hk := (List.getElem?_eq_some_iff.1 hp).1
  have he := (List.getElem?_eq_some_iff.1 hp).2
  rw [List.drop_eq_getElem_cons hk, he, cntP, if_pos hn]
set_option maxRecDepth 100000 in
set_option maxHeartbeats 1000000 in
theorem bsize_any (A : Option Addr) (n c : Nat) (w : World) : Calls Tryz.prog 137 #[.slice A n c] w fun e w' => e = .returned (.int .i64 (n : Int)) ∧ w = w' := by
  go_enter Tryz.func137, Tryz.ntmps137
  go_wp2_with fail
  go_ret
  exact ⟨rfl, rfl⟩
set_option maxRecDepth 100000 in
set_option maxHeartbeats 1000000 in
theorem psize_any (t : Int) (A : Option Addr) (n c : Nat) (w : World) (hn : n ≤ 140737488351232) : Calls Tryz.prog 90 #[.agg #[.int .u16 t, .slice A n c]] w fun e w' => e = .returned (.int .i64 ((1 + n : Nat) : Int)) ∧ Below w.heap.size w w' := by
  have hw : IntKind.i64.wrap (1 + (n : Int)) = ((1 + n : Nat) : Int) := by rw [IntWalk.i64_in _ (by omega)]; omega
  go_enter Tryz.func90, Tryz.ntmps90
  go_wp2_with fail
  refine (bsize_any A n c _).mono ?_; rintro e w1 ⟨rfl, rfl⟩
  go_wp2_with fail
  go_ret
  exact ⟨rfl, (Below.refl _ _).alloc (Nat.le_refl _) _⟩
set_option maxRecDepth 100000 in
set_option maxHeartbeats 2000000 in
theorem pssize_any (A : Option Addr) (n c : Nat) (ps : List Piece) (w : World) (h : Ps w A n ps) : Calls Tryz.prog 22 #[.slice A n c] w fun e w' => e = .returned (.int .i64 (psSize ps : Int)) ∧ Below w.heap.size w w' := by
  have hbig := h.big
  have hl := h.len
  have HPS := Lib.hid h
  have HL := Lib.hid hl
  clear h hl
  go_enter Tryz.func22, Tryz.ntmps22
  go_wp2_with fail
  go_loopw [3, 4] (fun v i wr => ∃ k m : Nat, k ≤ n ∧ i = .int .i64 k ∧ v = .int .i64 (m : Int) ∧ m ≤ 281474976710656 ∧ cntP m (ps.drop k) = psSize ps ∧ Below w.heap.size w wr) (fun _ i _ => n - (intOf i).toNat)
  case atStart => exact ⟨0, n, Nat.zero_le _, rfl, rfl, by omega, by rw [psSize, HL.out]; rfl, Below.refl _ _⟩
  case round =>
    obtain ⟨k, m, hk, rfl, rfl, hm, hc, hB⟩ := hrel
    have k0 : (0 : Int) ≤ (k : Int) := by omega
    have m0 : (0 : Int) ≤ (m : Int) := by omega
    have kadd : IntKind.i64.wrap ((k : Int) + 1) = (k : Int) + 1 := IntWalk.i64_in _ (by omega)
    by_cases hlt : k < n
    · have k1 : (k : Int) < (n : Int) := by omega
      have k2 : decide ((k : Int) < (n : Int)) = true := decide_eq_true k1
      have k3 : decide (k < n) = true := decide_eq_true hlt
      by_cases hm2 : m ≤ 1048576
      · obtain ⟨b, off, rfl, hb, hcc⟩ := (HPS.out.below hB).row (by omega)
        obtain ⟨t, body, B, ml, d, h1, h2, h3, h4, h5, h6, h7⟩ := hcc k hlt
        obtain rfl : body.length = ml := h5.len
        have hcd := cntP_drop m ps k (t, body) h1 hm2
        rw [hcd] at hc
        have hbl := h5.big
        have m1 : (m : Int) ≤ 1048576 := by omega
        have m2 : decide ((m : Int) ≤ 1048576) = true := decide_eq_true m1
        have hw : IntKind.i64.wrap ((m : Int) + ((1 + body.length : Nat) : Int)) = ((m + (1 + body.length) : Nat) : Int) := by rw [IntWalk.i64_in _ (by omega)]; omega
        have hw2 : IntKind.i64.wrap ((m : Int) + (1 + (body.length : Int))) = ((m + (1 + body.length) : Nat) : Int) := by rw [IntWalk.i64_in _ (by omega)]; omega
        have HC := Lib.hid hc
        have HB := Lib.hid hB
        have HCALL := Lib.hid (psize_any t B body.length d wr hbl)
        clear hc hB hcc h1 h2 h5 h6 h7 hcd
        go_wp2_with fail
        refine HCALL.out.mono ?_; rintro e w1 ⟨rfl, hB1⟩
        have HB1 := Lib.hid (HB.out.trans (hB1.mono HB.out.size))
        clear hB1
        go_wp2_with fail
        go_roundw
        case rel => exact ⟨k + 1, m + (1 + body.length), by omega, by go_num, by go_num, by omega, HC.out, HB1.out⟩
        case measure => simp [intOf]; omega
      · have m1 : ¬ (m : Int) ≤ 1048576 := by omega
        have m2 : decide ((m : Int) ≤ 1048576) = false := decide_eq_false m1
        have hfin : psSize ps = m := by
          rw [← hc]
          have hkl : k < ps.length := by rw [HL.out]; exact hlt
          rw [List.drop_eq_getElem_cons hkl, cntP, if_neg hm2]
        have HF := Lib.hid hfin
        have HB := Lib.hid hB
        clear hc hB hfin
        go_wp2_with fail
        go_ret
        exact ⟨ret_int (by rw [HF.out]), HB.out⟩
    · obtain rfl : k = n := by omega
      have k3 : ¬ ((k : Int) < (k : Int)) := by omega
      have hfin : psSize ps = m := by
        rw [← hc, List.drop_eq_nil_of_le (by rw [HL.out]; exact Nat.le_refl _)]; rfl
      have HF := Lib.hid hfin
      have HB := Lib.hid hB
      clear hc hB hfin
      go_wp2_with fail
      go_ret
      exact ⟨ret_int (by rw [HF.out]), HB.out⟩
end Go.Proofs.YtjikjdignhdipaaGreatDoor
