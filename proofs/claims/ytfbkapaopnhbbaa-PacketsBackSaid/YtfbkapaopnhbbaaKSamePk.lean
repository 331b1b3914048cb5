/- The walks over SameParam, SameParams, SamePacket: what is the same is told to be. -/
import Derived.Test.YtfbkapaopnhbbaaKRow
import Derived.Test.YtfbkapaopnhbbaaKSame
import Derived.Test.YtfbkapaopnhbbaaEqInts
namespace Go.Proofs.Ytfbkapaopnhbbaa
open Go.RowKit
set_option linter.unusedSimpArgs false
set_option linter.unusedVariables false

set_option maxHeartbeats 1000000 in
theorem samep_any (t : Int) (A1 A2 : Option Addr) (n1 c1 n2 c2 : Nat) (body : List Int) (w : World) (r1 : Rd w .u8 A1 n1 body) (r2 : Rd w .u8 A2 n2 body) :
    Calls Try.prog 33 #[.agg #[.int .u16 t, .slice A1 n1 c1], .agg #[.int .u16 t, .slice A2 n2 c2]] w fun e w' => e = .returned (.bool true) ∧ Below w.heap.size w w' := by
  have hB : Below w.heap.size w ((w.alloc (.cells #[.int .u16 t, .slice A1 n1 c1] 59)).alloc (.cells #[.int .u16 t, .slice A2 n2 c2] 59)) := ((Below.refl _ _).alloc (Nat.le_refl _) _).alloc (by simp) _
  have hs := same_any A1 n1 c1 body A2 n2 c2 body _ (r1.below hB) (r2.below hB)
  rw [decide_eq_true rfl] at hs
  have HS := Lib.hid hs
  have HB := Lib.hid hB
  clear hs hB r1 r2
  go_enter Try.func33, Try.ntmps33
  go_wp2_with fail
  refine HS.out.mono ?_; rintro e w1 ⟨rfl, hD⟩
  have hB1 := below_drawn HB.out hD
  go_wp2_with fail
  go_ret
  exact ⟨rfl, hB1⟩

set_option maxRecDepth 100000 in
set_option maxHeartbeats 2000000 in
theorem sameps_any (A1 A2 : Option Addr) (n1 c1 n2 c2 : Nat) (ps : List Piece) (w : World) (p1 : Ps w A1 n1 ps) (p2 : Ps w A2 n2 ps) :
    Calls Try.prog 25 #[.slice A1 n1 c1, .slice A2 n2 c2] w fun e w' => e = .returned (.bool true) ∧ Below w.heap.size w w' := by
  have hn : n1 = n2 := p1.len.symm.trans p2.len
  subst hn
  have hbig := p1.big
  have hl := p1.len
  have HP1 := Lib.hid p1
  have HP2 := Lib.hid p2
  clear p1 p2
  go_enter Try.func25, Try.ntmps25
  go_wp2_with fail
  go_loopw [5] (fun i wr => ∃ k : Nat, k ≤ n1 ∧ i = .int .i64 k ∧ Below w.heap.size w wr) (fun i _ => n1 - (intOf i).toNat)
  case atStart => exact ⟨0, Nat.zero_le _, rfl, Below.refl _ _⟩
  case round =>
    obtain ⟨k, hk, rfl, hB⟩ := hrel
    by_cases hlt : k < n1
    · obtain ⟨b1, o1, rfl, hb1, hc1⟩ := (HP1.out.below hB).row (by omega)
      obtain ⟨b2, o2, rfl, hb2, hc2⟩ := (HP2.out.below hB).row (by omega)
      obtain ⟨t, body, B1, m1, d1, h1, h2, h3, h4, h5, h6, h7⟩ := hc1 k hlt
      obtain ⟨t', body', B2, m2, d2, g1, g2, g3, g4, g5, g6, g7⟩ := hc2 k hlt
      rw [h1] at g1
      simp only [Option.some.injEq, Prod.mk.injEq] at g1
      obtain ⟨rfl, rfl⟩ := g1
      have i0 : (0 : Int) ≤ (k : Int) := by omega
      have i1 : (k : Int) < (n1 : Int) := by omega
      have hs := samep_any t B1 B2 m1 d1 m2 d2 body wr.drew (h5.below (drew_below wr)) (g5.below (drew_below wr))
      have HS := Lib.hid hs
      have HB := Lib.hid hB
      clear hc1 hc2 h1 h2 g2 h5 g5 h6 g6 h7 g7 hs hB hl
      go_wp2_with fail
      go_region_held3 (fun w' => w'.cell? ⟨b1, o1 + k * 2, none⟩ = some (.int .u16 t) ∧ w'.cell? ⟨b1, o1 + k * 2 + 1, none⟩ = some (.slice B1 m1 d1) ∧ w'.cell? ⟨b2, o2 + k * 2, none⟩ = some (.int .u16 t) ∧ w'.cell? ⟨b2, o2 + k * 2 + 1, none⟩ = some (.slice B2 m2 d2))
        (((try dsimp only); refine ⟨?_, ?_, ?_, ?_⟩ <;> (first | assumption | (go_keep; done))))
        (first
          | (go_at_call 33
             refine HS.out.mono ?_; rintro e w3 ⟨rfl, hB3⟩
             have k1 := (hB3.cell (p := ⟨b1, o1 + k * 2, none⟩) hb1).trans h3
             have k2 := (hB3.cell (p := ⟨b1, o1 + k * 2 + 1, none⟩) hb1).trans h4
             have k3 := (hB3.cell (p := ⟨b2, o2 + k * 2, none⟩) hb2).trans g3
             have k4 := (hB3.cell (p := ⟨b2, o2 + k * 2 + 1, none⟩) hb2).trans g4
             have HB3 := Lib.hid hB3
             clear hB3))
      have HB4 := Lib.hid (HB.out.trans (((drew_below wr).trans HB3.out).mono HB.out.size))
      go_wp2_with fail
      go_roundw
      case rel => exact ⟨k + 1, by omega, by go_num, HB4.out⟩
      case measure => simp [intOf]; omega
    · obtain rfl : k = n1 := by omega
      go_wp2_with fail
      go_ret
      exact ⟨rfl, hB⟩

/-- The load of a row out of the middle of a block, under a guard that lets it. -/
theorem wpList_load_want {P : Program} {ops : Array Oper} {rest : List Oper} {op : Oper} {a : Act} {w : World} {Q : Exit → Act → World → Prop} (hw : Region.wanted op (yielded ops a.tmps) = true) (ty : TypeId) (x : Operand) (ho : op.op = .load ty x)
    (b o : Nat) (hx : a.eval x = .pointer (some ⟨b, o, none⟩)) (cs : List Value) (d : TypeDesc) (hc : w.rangeAt b o cs)
    (hu : P.underlying ty = some d) (hd : d.isRow = true) (hi : (P.info? ty).map (·.size) = some cs.length)
    (h : wpList P ops Q rest (a.put op.dst (.agg cs.toArray)) w) : wpList P ops Q (op :: rest) a w :=
  wpList_step fun K hK => by rw [if_pos hw]; exact wp_load_mid ty x ho b o hx cs d hc hu hd hi (hK _ _ h)
theorem size_u8k : ∀ w, (sizeOf 5).run Try.prog w = .ok 1 w := fun w => by kernel_rfl
theorem tag_same (f : List Int) (hf : f.length = 16) (w : World) : Sem.run Try.prog (Op.equalIn 10000 24 (.agg (f.map (Value.int .u8)).toArray) (.agg (f.map (Value.int .u8)).toArray)) w = .ok true w := by
  have := run_equalIn_ints (P := Try.prog) w 9998 24 5 16 .u8 Try.underlying24 Try.underlying5 size_u8k f f hf hf
  simpa using this

set_option maxRecDepth 100000 in
set_option maxHeartbeats 4000000 in
theorem samepk_any (kind : Int) (f t : List Int) (ps : List Piece) (A1 A2 : Option Addr) (n1 c1 n2 c2 : Nat) (w : World) (p1 : Ps w A1 n1 ps) (p2 : Ps w A2 n2 ps) (hf : f.length = 16) (ht : t.length = 16) :
    Calls Try.prog 9 #[.agg (pktC kind f t (.slice A1 n1 c1)).toArray, .agg (pktC kind f t (.slice A2 n2 c2)).toArray] w fun e w' => e = .returned (.bool true) ∧ Below w.heap.size w w' := by
  obtain ⟨X1, hX1⟩ : ∃ X, pktC kind f t (.slice A1 n1 c1) = X := ⟨_, rfl⟩
  obtain ⟨X2, hX2⟩ : ∃ X, pktC kind f t (.slice A2 n2 c2) = X := ⟨_, rfl⟩
  have part : ∀ (W : World) (g : Nat) (A : Option Addr) (n c : Nat), Blk W g 27 (pktC kind f t (.slice A n c)) → W.cell? ⟨g, 0, none⟩ = some (.int .u8 kind) ∧ W.rangeAt g 1 (f.map (Value.int .u8)) ∧ W.rangeAt g 17 (t.map (Value.int .u8)) ∧ W.cell? ⟨g, 33, none⟩ = some (.slice A n c) := by
    intro W g A n c h
    refine ⟨h.cell 0, fun j v hj => ?_, fun j v hj => ?_, ?_⟩
    · have hjl := (List.getElem?_eq_some_iff.1 hj).1
      rw [h.cell, Nat.add_comm, pktC, List.getElem?_cons_succ, List.getElem?_append_left hjl]; exact hj
    · have hjl := (List.getElem?_eq_some_iff.1 hj).1
      rw [h.cell, show 17 + j = (16 + j) + 1 by omega, pktC, List.getElem?_cons_succ, List.getElem?_append_right (by simp [hf]), List.length_map, hf, show 16 + j - 16 = j by omega, List.getElem?_append_left hjl]; exact hj
    · rw [h.cell 33]
      simp only [pktC, List.getElem?_cons_succ]
      rw [List.getElem?_append_right (by simp [hf]), List.length_map, hf, List.getElem?_append_right (by simp [ht]), List.length_map, ht]
      rfl
  have k1 : Blk ((w.alloc (.cells X1.toArray 27)).alloc (.cells X2.toArray 27)) w.heap.size 27 X1 := (Blk.new w 27 X1).alloc _
  have k2 : Blk ((w.alloc (.cells X1.toArray 27)).alloc (.cells X2.toArray 27)) (w.heap.size + 1) 27 X2 := by
    have := Blk.new (w.alloc (.cells X1.toArray 27)) 27 X2
    rwa [World.size_alloc] at this
  have hB : Below w.heap.size w ((w.alloc (.cells X1.toArray 27)).alloc (.cells X2.toArray 27)) := ((Below.refl _ _).alloc (Nat.le_refl _) _).alloc (by simp) _
  obtain ⟨a0, a1, a2, a3⟩ := part _ _ A1 n1 c1 (by rw [hX1]; exact k1)
  obtain ⟨b0, b1, b2, b3⟩ := part _ _ A2 n2 c2 (by rw [hX2]; exact k2)
  have hs := sameps_any A1 A2 n1 c1 n2 c2 ps _ (p1.below hB) (p2.below hB)
  have hfe := tag_same f hf
  have hte := tag_same t ht
  have hfs : (Try.prog.info? 24).map (·.size) = some (f.map (Value.int .u8)).length := by rw [List.length_map, hf]; kernel_rfl
  have hts : (Try.prog.info? 24).map (·.size) = some (t.map (Value.int .u8)).length := by rw [List.length_map, ht]; kernel_rfl
  have hu : Try.prog.underlying 24 = some (.array 16 5) := Try.underlying24
  generalize f.map (Value.int .u8) = F at *
  generalize t.map (Value.int .u8) = T at *
  rw [hX1, hX2]
  generalize hW : (w.alloc (.cells X1.toArray 27)).alloc (.cells X2.toArray 27) = w1 at *
  have HS := Lib.hid hs
  have HB := Lib.hid hB
  have HA1 := Lib.hid a1
  have HA2 := Lib.hid a2
  have HB1 := Lib.hid b1
  have HB2 := Lib.hid b2
  have HFS := Lib.hid hfs
  have HTS := Lib.hid hts
  have HU := Lib.hid hu
  clear hs hB a1 a2 b1 b2 hfs hts hu hX1 hX2 k1 k2 part p1 p2
  go_enter Try.func9, Try.ntmps9
  go_wp2_with (first
    | (refine wpList_value (o := ⟨some 2, .box 27 _, _, _, _, _⟩) (v := .pointer (some ⟨w.heap.size, 0, none⟩)) (w' := w.alloc (.cells X1.toArray 27)) rfl (by rfl) ?_)
    | (refine wpList_value (o := ⟨some 3, .box 27 _, _, _, _, _⟩) (v := .pointer (some ⟨(w.alloc (.cells X1.toArray 27)).heap.size, 0, none⟩)) (w' := (w.alloc (.cells X1.toArray 27)).alloc (.cells X2.toArray 27)) rfl (by rfl) ?_; rw [World.size_alloc, hW])
    | (refine wpList_load_want (by rfl) 24 _ rfl w.heap.size 1 rfl F _ HA1.out HU.out rfl HFS.out ?_)
    | (refine wpList_load_want (by rfl) 24 _ rfl w.heap.size 17 rfl T _ HA2.out HU.out rfl HTS.out ?_)
    | (refine wpList_load_want (by rfl) 24 _ rfl (w.heap.size + 1) 1 rfl F _ HB1.out HU.out rfl HFS.out ?_)
    | (refine wpList_load_want (by rfl) 24 _ rfl (w.heap.size + 1) 17 rfl T _ HB2.out HU.out rfl HTS.out ?_))
  refine HS.out.mono ?_; rintro e w2 ⟨rfl, hB2⟩
  have HB3 := Lib.hid (HB.out.trans (hB2.mono HB.out.size))
  clear hB2
  go_wp2_with fail
  go_ret
  exact ⟨rfl, HB3.out⟩
end Go.Proofs.Ytfbkapaopnhbbaa
