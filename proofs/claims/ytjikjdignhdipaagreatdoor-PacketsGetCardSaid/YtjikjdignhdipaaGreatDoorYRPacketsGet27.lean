/- The walk over SamePacket: what is the same is told to be. -/
import Derived.Test.YtjikjdignhdipaaGreatDoorYRPacketsGet25
import Derived.Test.YtjikjdignhdipaaGreatDoorYRPacketsGet15
import Derived.Test.YtjikjdignhdipaaGreatDoorYRPacketsGet26
namespace Go.Proofs.YtjikjdignhdipaaGreatDoor
open Go.RowKit
set_option linter.unusedSimpArgs false
set_option linter.unusedVariables false

theorem size_u8k : ∀ w, (sizeOf 5).run Tryz.prog w = .ok 1 w := fun w => by kernel_rfl
theorem tag_same (f : List Int) (hf : f.length = 16) (w : World) : Sem.run Tryz.prog (Op.equalIn 10000 24 (.agg (f.map (Value.int .u8)).toArray) (.agg (f.map (Value.int .u8)).toArray)) w = .ok true w := by
  have := run_equalIn_ints (P := Tryz.prog) w 9998 24 5 16 .u8 Tryz.underlying24 Tryz.underlying5 size_u8k f f hf hf
  simpa using this

set_option maxRecDepth 100000 in
set_option maxHeartbeats 4000000 in
theorem samepk_any (kind : Int) (f t : List Int) (ps : List Piece) (A1 A2 : Option Addr) (n1 c1 n2 c2 : Nat) (w : World) (p1 : Ps w A1 n1 ps) (p2 : Ps w A2 n2 ps) (hf : f.length = 16) (ht : t.length = 16) :
    Calls Tryz.prog 18 #[.agg (pktC kind f t (.slice A1 n1 c1)).toArray, .agg (pktC kind f t (.slice A2 n2 c2)).toArray] w fun e w' => e = .returned (.bool true) ∧ Below w.heap.size w w' := by
  obtain ⟨X1, hX1⟩ : ∃ X, pktC kind f t (.slice A1 n1 c1) = X := ⟨_, rfl⟩
  obtain ⟨X2, hX2⟩ : ∃ X, pktC kind f t (.slice A2 n2 c2) = X := ⟨_, rfl⟩
  have part : ∀ (W : World) (g : Nat) (A : Option Addr) (n c : Nat), Blk W g 27 (pktC kind f t (.slice A n c)) → W.cell? ⟨g, 0, none⟩ = some (.int .u8 kind) ∧ W.rangeAt g 1 (f.map (Value.int .u8)) ∧ W.rangeAt g 17 (t.map (Value.int .u8)) ∧ W.cell? ⟨g, 33, none⟩ = some (.slice A n c) := by
    intro W g A n c h
    refine ⟨h.cell 0, fun j v hj => ?_, fun j v hj => ?_, ?_⟩
    · have hjl := (List.getElem?_eq_some_iff.1 hj).1
      rw [h.cell, Nat.add_comm, pktC, List.getElem?_cons_succ, List.getElem?_append_left hjl]; exact hj
    · have hjl := (List.getElem?_eq_some_iff.1 hj).1
      rw [h.cell, show 17 + j = (16 + j) + 1 by omega, pktC, List.getElem?_cons_succ, List.getElem?_append_right (by simp [hf]), List.length_map, hf, show 16 + j - 16 = j by omega, List.getElem?_append_left hjl]; exact hj
    · rw [h.cell 33]
      simp only [pktC, List.getElem?_cons_succ]
      rw [List.getElem?_append_right (by simp [hf]), List.length_map, hf, List.getElem?_append_right (by simp [ht]), List.length_map, ht]
      rfl
  have k1 : Blk ((w.alloc (.cells X1.toArray 27)).alloc (.cells X2.toArray 27)) w.heap.size 27 X1 := (Blk.new w 27 X1).alloc _
  have k2 : Blk ((w.alloc (.cells X1.toArray 27)).alloc (.cells X2.toArray 27)) (w.heap.size + 1) 27 X2 := by
    have := Blk.new (w.alloc (.cells X1.toArray 27)) 27 X2
    rwa [World.size_alloc] at this
  have hB : Below w.heap.size w ((w.alloc (.cells X1.toArray 27)).alloc (.cells X2.toArray 27)) := ((Below.refl _ _).alloc (Nat.le_refl _) _).alloc (by simp) _
  obtain ⟨a0, a1, a2, a3⟩ := part _ _ A1 n1 c1 (by rw [hX1]; exact k1)
  obtain ⟨b0, b1, b2, b3⟩ := part _ _ A2 n2 c2 (by rw [hX2]; exact k2)
  have hs := sameps_any A1 A2 n1 c1 n2 c2 ps _ (p1.below hB) (p2.below hB)
  have hfe := tag_same f hf
  have hte := tag_same t ht
  have hfs : (Tryz.prog.info? 24).map (·.size) = some (f.map (Value.int .u8)).length := by rw [List.length_map, hf]; kernel_rfl
  have hts : (Tryz.prog.info? 24).map (·.size) = some (t.map (Value.int .u8)).length := by rw [List.length_map, ht]; kernel_rfl
  have hu : Tryz.prog.underlying 24 = some (.array 16 5) := Tryz.underlying24
  generalize f.map (Value.int .u8) = F at *
  generalize t.map (Value.int .u8) = T at *
  rw [hX1, hX2]
  generalize hW : (w.alloc (.cells X1.toArray 27)).alloc (.cells X2.toArray 27) = w1 at *
  have HS := Lib.hid hs
  have HB := Lib.hid hB
  have HA1 := Lib.hid a1
  have HA2 := Lib.hid a2
  have HB1 := Lib.hid b1
  have HB2 := Lib.hid b2
  have HFS := Lib.hid hfs
  have HTS := Lib.hid hts
  have HU := Lib.hid hu
  clear hs hB a1 a2 b1 b2 hfs hts hu hX1 hX2 k1 k2 part p1 p2
  go_enter Tryz.func18, Tryz.ntmps18
  go_wp2_with (first
    | (refine wpList_value (o := ⟨some 2, .box 27 _, _, _, _, _⟩) (v := .pointer (some ⟨w.heap.size, 0, none⟩)) (w' := w.alloc (.cells X1.toArray 27)) rfl (by rfl) ?_)
    | (refine wpList_value (o := ⟨some 3, .box 27 _, _, _, _, _⟩) (v := .pointer (some ⟨(w.alloc (.cells X1.toArray 27)).heap.size, 0, none⟩)) (w' := (w.alloc (.cells X1.toArray 27)).alloc (.cells X2.toArray 27)) rfl (by rfl) ?_; rw [World.size_alloc, hW])
    | (refine wpList_load_want (by rfl) 24 _ rfl w.heap.size 1 rfl F _ HA1.out HU.out rfl HFS.out ?_)
    | (refine wpList_load_want (by rfl) 24 _ rfl w.heap.size 17 rfl T _ HA2.out HU.out rfl HTS.out ?_)
    | (refine wpList_load_want (by rfl) 24 _ rfl (w.heap.size + 1) 1 rfl F _ HB1.out HU.out rfl HFS.out ?_)
    | (refine wpList_load_want (by rfl) 24 _ rfl (w.heap.size + 1) 17 rfl T _ HB2.out HU.out rfl HTS.out ?_))
  refine HS.out.mono ?_; rintro e w2 ⟨rfl, hB2⟩
  have HB3 := Lib.hid (HB.out.trans (hB2.mono HB.out.size))
  clear hB2
  go_wp2_with fail
  go_ret
  exact ⟨rfl, HB3.out⟩
end Go.Proofs.YtjikjdignhdipaaGreatDoor
