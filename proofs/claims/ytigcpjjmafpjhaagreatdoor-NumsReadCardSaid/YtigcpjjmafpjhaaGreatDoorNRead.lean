/- The walk over the law NumsRead. -/
import Derived.Test.YtigcpjjmafpjhaaGreatDoorNReadP
namespace Go.Proofs.YtigcpjjmafpjhaaGreatDoor
open Go.RowKit
set_option linter.unusedSimpArgs false
set_option linter.unusedVariables false

set_option maxRecDepth 100000 in
set_option maxHeartbeats 4000000 in
theorem read_beyond (A0 : Option Addr) (n0 c0 : Nat) (k : Int) (w : World) (hb0 : n0 ≤ 140737488351232) (hle : 1048576 < n0) :
    Calls Tryz.prog 3 #[.slice A0 n0 c0, .int .i64 k] w fun e w' => e = .returned (.bool true) ∧ Below w.heap.size w w' := by
  have hbe : ∀ W : World, Calls Tryz.prog 5 #[.slice (some ⟨W.heap.size, 0, none⟩) 1 1] (W.alloc (.cells #[.int .i64 n0] 3)) fun e w' => e = .returned (.bool true) ∧ W.alloc (.cells #[.int .i64 n0] 3) = w' := fun W => by
    have hk := Blk.new W 3 [.int .i64 n0]
    have := beyond1_any W.heap.size n0 1 _ (by omega) (hk.cell 0)
    rwa [decide_eq_true (by omega)] at this
  have HB := Lib.hid hbe
  clear hbe
  go_enter Tryz.func3, Tryz.ntmps3
  go_wp2_with fail
  refine (HB.out w).mono ?_
  rintro e w2 ⟨rfl, rfl⟩
  have hB2 := (Below.refl w.heap.size w).alloc (Nat.le_refl _) (.cells #[.int .i64 n0] 3)
  generalize w.alloc (.cells #[.int .i64 n0] 3) = w2 at *
  go_wp2_with fail
  go_ret
  exact ⟨rfl, hB2⟩

set_option maxRecDepth 100000 in
set_option maxHeartbeats 8000000 in
theorem read_at (A0 : Option Addr) (n0 c0 : Nat) (bs : List Int) (k : Int) (w : World) (r0 : Rd w .u8 A0 n0 bs) (l0 : n0 ≤ c0) (z0 : A0 = none → c0 = 0) (hle : n0 ≤ 1048576) :
    Calls Tryz.prog 3 #[.slice A0 n0 c0, .int .i64 k] w fun e w' => e = .returned (.bool true) ∧ Below w.heap.size w w' := by
  have hbe : ∀ W : World, Calls Tryz.prog 5 #[.slice (some ⟨W.heap.size, 0, none⟩) 1 1] (W.alloc (.cells #[.int .i64 n0] 3)) fun e w' => e = .returned (.bool false) ∧ W.alloc (.cells #[.int .i64 n0] 3) = w' := fun W => by
    have hk := Blk.new W 3 [.int .i64 n0]
    have := beyond1_any W.heap.size n0 1 _ (by omega) (hk.cell 0)
    rwa [decide_eq_false (by omega)] at this
  have hl := r0.len
  have HB := Lib.hid hbe
  have HR := Lib.hid r0
  clear hbe r0
  go_enter Tryz.func3, Tryz.ntmps3
  go_wp2_with fail
  refine (HB.out w).mono ?_
  rintro e wa ⟨rfl, rfl⟩
  have hBa := (Below.refl w.heap.size w).alloc (Nat.le_refl _) (.cells #[.int .i64 n0] 3)
  have htw := twin2_any A0 n0 c0 bs _ (HR.out.below hBa) l0 (by omega)
  generalize w.alloc (.cells #[.int .i64 n0] 3) = wa at *
  have HBA := Lib.hid hBa
  have HTW := Lib.hid htw
  clear hBa htw HB
  go_wp2_with fail
  refine HTW.out.mono ?_
  rintro e w1 ⟨g, cap, rfl, hcap, hcm, hg, hlt, ho, hB1⟩
  rw [hl] at hcap ho ⊢
  have hby : ∀ x ∈ bs ++ [77], 0 ≤ x ∧ x ≤ 255 := fun x hx => by
    rcases List.mem_append.1 hx with h | h
    · exact rd_bytes HR.out x h
    · obtain rfl : x = 77 := by simpa using h
      omega
  have r77 : Rd w1 .u8 (some ⟨g, 0, none⟩) (n0 + 1) (bs ++ [77]) := rd_own ho hby (by omega)
  have rt : Rd w1 .u8 (some ⟨g, 0, none⟩) n0 bs := by
    have := r77.cut n0 (by omega)
    rwa [List.take_append_of_le_length (by omega), List.take_of_length_le (by omega)] at this
  have hBw : Below w.heap.size w w1 := HBA.out.trans (hB1.mono HBA.out.size)
  have hT : RowIs w.heap.size w1 ⟨some ⟨g, 0, none⟩, n0, cap, none, 0, 0, 1⟩ bs := by
    have := own_take (own_lower ho HBA.out.size) (m := n0) (by omega)
    rw [← List.map_take, List.take_append_of_le_length (by omega), List.take_of_length_le (by omega)] at this
    exact this
  have rA : ∀ W, Below w1.heap.size w1 W → Rd W .u8 A0 n0 bs := fun W hW => HR.out.below (hBw.trans (hW.mono hBw.size))
  have rT : ∀ W, Below w1.heap.size w1 W → Rd W .u8 (some ⟨g, 0, none⟩) n0 bs := fun W hW => rt.below hW
  obtain ⟨gn, hgn⟩ : ∃ gn, getN bs n0 k = gn := ⟨_, rfl⟩
  obtain ⟨ge, hge⟩ : ∃ ge, getE n0 k = ge := ⟨_, rfl⟩
  obtain ⟨le, hle2⟩ : ∃ le, longE n0 = le := ⟨_, rfl⟩
  obtain ⟨F, hF⟩ : ∃ F, (longGot bs n0).map (Value.int .u64) = F := ⟨_, rfl⟩
  have hF4 : F.length = 4 := by rw [← hF]; simp [longGot_len]
  have hFs : ∀ W : World, Sem.run Tryz.prog (Op.equalIn 10000 30 (.agg F.toArray) (.agg F.toArray)) W = .ok true W := fun W => by rw [← hF]; exact num_same _ (longGot_len _ _) W
  have hF1 : F.toArray.all (·.oneCell') = true := all_oneCell_toArray (fun v hv => by
    rw [← hF] at hv
    obtain ⟨x, _, rfl⟩ := List.mem_map.1 hv
    rfl)
  obtain ⟨gl, hgl⟩ : ∃ gl, gotL bs = gl := ⟨_, rfl⟩
  obtain ⟨gt, hgt⟩ : ∃ gt, gotT bs = gt := ⟨_, rfl⟩
  obtain ⟨gf, hgf⟩ : ∃ gf, gotE bs = gf := ⟨_, rfl⟩
  have hglb : ∀ x ∈ gl, 0 ≤ x ∧ x ≤ 255 := fun x hx => by
    rw [← hgl] at hx
    unfold gotL gotB at hx
    split at hx
    · simp at hx
    · split at hx
      · simp at hx
      · exact rd_bytes HR.out x (List.mem_of_mem_drop (List.mem_of_mem_take hx))
  have hgll : gl.length ≤ n0 := by
    rw [← hgl]
    cases h : gotB bs with
    | none => simp [gotL, h]
    | some l => simp only [gotL, h, Option.getD_some]; have := gotB_le h; omega
  have hget : ∀ W, Below w1.heap.size w1 W → Calls Tryz.prog 7 #[.slice (some ⟨g, 0, none⟩) n0 cap, .int .i64 k] W fun e W' => e = .returned (.tuple #[.int .u64 gn, .int .i64 ge]) ∧ Below w1.heap.size w1 W' := fun W hW => by
    have := get_any (some ⟨g, 0, none⟩) n0 cap bs k W (rT W hW) (by omega)
    rw [hgn, hge] at this
    exact this.mono fun e W' ⟨h1, h2⟩ => ⟨h1, hW.trans (h2.mono hW.size)⟩
  have hrget : ∀ W, Below w1.heap.size w1 W → Calls Tryz.prog 8 #[.slice A0 n0 c0, .int .i64 k] W fun e W' => e = .returned (.tuple #[.int .u64 gn, .int .i64 ge]) ∧ Below w1.heap.size w1 W' := fun W hW => by
    have := refget_any A0 n0 c0 bs k W (rA W hW) l0
    rw [hgn, hge] at this
    exact this.mono fun e W' ⟨h1, h2⟩ => ⟨h1, hW.trans (h2.mono hW.size)⟩
  have hlong : ∀ W, Below w1.heap.size w1 W → Calls Tryz.prog 9 #[.slice (some ⟨g, 0, none⟩) n0 cap] W fun e W' => e = .returned (.tuple #[.agg F.toArray, .int .i64 le]) ∧ Below w1.heap.size w1 W' := fun W hW => by
    have := getlong_any (some ⟨g, 0, none⟩) n0 cap bs W (rT W hW) (by omega)
    rw [longOf, hF, hle2] at this
    exact this.mono fun e W' ⟨h1, h2⟩ => ⟨h1, hW.trans (h2.mono hW.size)⟩
  have hrlong : ∀ W, Below w1.heap.size w1 W → Calls Tryz.prog 10 #[.slice A0 n0 c0] W fun e W' => e = .returned (.tuple #[.agg F.toArray, .int .i64 le]) ∧ Below W.heap.size W W' ∧ Below w1.heap.size w1 W' := fun W hW => by
    have := refgetlong_any A0 n0 c0 bs W (rA W hW) l0 z0
    rw [longOf, hF, hle2] at this
    exact this.mono fun e W' ⟨h1, h2⟩ => ⟨h1, h2, hW.trans (h2.mono hW.size)⟩
  have hgb : ∀ W, Below w1.heap.size w1 W → Calls Tryz.prog 11 #[.slice (some ⟨g, 0, none⟩) n0 cap] W fun e W' => ∃ (A : Option Addr) (c : Nat), e = .returned (.tuple #[.slice A gl.length c, .int .i64 gt, .int .i64 gf]) ∧ W'.ownsRow W.heap.size 5 1 (.slice A gl.length c) gl.length (gl.map (Value.int .u8)) ∧ Below W.heap.size W W' ∧ Below w1.heap.size w1 W' := fun W hW => by
    have := getbytes_u (some ⟨g, 0, none⟩) n0 cap bs W (rT W hW) (by omega)
    unfold GotU at this
    rw [hgl, hgt, hgf] at this
    exact this.mono fun e W' ⟨A, c, h1, h2, h3⟩ => ⟨A, c, h1, h2, h3, hW.trans (h3.mono hW.size)⟩
  have hrgb : ∀ W, Below w1.heap.size w1 W → Calls Tryz.prog 12 #[.slice A0 n0 c0] W fun e W' => ∃ (A : Option Addr) (c : Nat), e = .returned (.tuple #[.slice A gl.length c, .int .i64 gt, .int .i64 gf]) ∧ Rd W' .u8 A gl.length gl ∧ Below W.heap.size W W' ∧ Below w1.heap.size w1 W' := fun W hW => by
    have := refgetbytes_u A0 n0 c0 bs W (rA W hW) l0 z0 (by omega)
    unfold RefU at this
    rw [hgl, hgt, hgf] at this
    exact this.mono fun e W' ⟨A, c, h1, h2, h3⟩ => ⟨A, c, h1, h2, h3, hW.trans (h3.mono hW.size)⟩
  have hleft : ∀ W, Below w1.heap.size w1 W → Calls Tryz.prog 14 #[.slice (some ⟨g, 0, none⟩) n0 cap, .slice A0 n0 c0] W fun e W' => e = .returned (.bool true) ∧ Drawn W W' := fun W hW => left_any g n0 cap bs A0 c0 W hcap hcm (r77.below hW) (rA W hW)
  have HGET := Lib.hid hget
  have HRGET := Lib.hid hrget
  have HLONG := Lib.hid hlong
  have HRLONG := Lib.hid hrlong
  have HGB := Lib.hid hgb
  have HRGB := Lib.hid hrgb
  have HLEFT := Lib.hid hleft
  have HTR := Lib.hid hT
  have HBW := Lib.hid hBw
  have HGLB := Lib.hid hglb
  have HGLT : Hid (g < w1.heap.size) := Lib.hid hlt
  have HF4 := Lib.hid hF4
  have HF1 := Lib.hid hF1
  have HN4 : Hid ((Tryz.prog.info? 30).map (·.size) = some F.toArray.size) := Lib.hid (by rw [List.size_toArray, hF4]; kernel_rfl)
  have HN4L : Hid ((Tryz.prog.info? 30).map (·.size) = some F.length) := Lib.hid (by rw [hF4]; kernel_rfl)
  have HNU := Lib.hid Tryz.underlying30
  have HB0 := Lib.hid (Below.refl w1.heap.size w1)
  clear hget hrget hlong hrlong hgb hrgb hleft hT hBw hglb hlt hF4 hF1 hF hgn hge hle2 hgl hgt hgf rA rT rt r77 hby ho hB1 hg HTW HR HBA
  go_wp2_with fail
  refine (HGET.out _ HB0.out).mono ?_; rintro e w2 ⟨rfl, h2⟩
  have HB2 := Lib.hid h2
  clear h2
  go_wp2_with fail
  refine (HRGET.out _ HB2.out).mono ?_; rintro e w3 ⟨rfl, h3⟩
  have HB3 := Lib.hid h3
  clear h3
  go_wp2_with fail
  refine (HLONG.out _ HB3.out).mono ?_; rintro e w4 ⟨rfl, h4⟩
  obtain ⟨w5, hw5⟩ : ∃ w5, w5 = w4.alloc (.cells ((List.replicate 4 (0 : Int)).map (Value.int .u64)).toArray 30) := ⟨_, rfl⟩
  obtain ⟨w6, hw6⟩ : ∃ w6, w5.setCells w4.heap.size 0 F = w6 := ⟨_, rfl⟩
  have hk5 : Blk w5 w4.heap.size 30 ((List.replicate 4 (0 : Int)).map (Value.int .u64)) := by rw [hw5]; exact Blk.new _ _ _
  have hk6 : Blk w6 w4.heap.size 30 F := by rw [← hw6]; exact hk5.whole F (by rw [HF4.out]; rfl)
  have h5 : Below w1.heap.size w1 w5 := by rw [hw5]; exact h4.alloc h4.size _
  have h6 : Below w1.heap.size w1 w6 := by rw [← hw6]; exact below_keeps h5 (Keeps.setCells F 0 w5) (Nat.le_refl _) (fun i hi => by rw [hi]; exact h4.size)
  have HA5 : Hid (∀ (o : Oper), o.op = .alloc 30 → ∀ ev, (execOp ev o).run Tryz.prog w4 = .ok (.value (.pointer (some ⟨w4.heap.size, 0, none⟩))) w5) := Lib.hid (fun o ho ev => by rw [hw5]; exact exec_alloc_num w4 o ho ev)
  have HTH5 : Hid (w5.there w4.heap.size 0 F.toArray.size) := Lib.hid (hk5.there 0 _ (by rw [List.size_toArray, HF4.out]; simp))
  have HK6 := Lib.hid hk6
  have HW6 := Lib.hid hw6
  have HB6 := Lib.hid h6
  generalize w4.heap.size = g4 at *
  clear hk5 hk6 hw5 hw6 h5 h6 h4
  go_wp2_with (first
    | (refine wpList_store_mid rfl 30 _ _ rfl g4 0 F.toArray rfl rfl HTH5.out HN4.out HF1.out ?_; rw [show F.toArray.toList = F from rfl, HW6.out])
    | (refine wpList_value (o := ⟨some 10, .alloc 30, _, _, _, _⟩) (v := .pointer (some ⟨g4, 0, none⟩)) (w' := w5) rfl (HA5.out _ rfl _) ?_))
  refine (HRLONG.out _ HB6.out).mono ?_; rintro e w7 ⟨rfl, h67, h7⟩
  obtain ⟨w8, hw8⟩ : ∃ w8, w8 = w7.alloc (.cells ((List.replicate 4 (0 : Int)).map (Value.int .u64)).toArray 30) := ⟨_, rfl⟩
  obtain ⟨w9, hw9⟩ : ∃ w9, w8.setCells w7.heap.size 0 F = w9 := ⟨_, rfl⟩
  have hk8 : Blk w8 w7.heap.size 30 ((List.replicate 4 (0 : Int)).map (Value.int .u64)) := by rw [hw8]; exact Blk.new _ _ _
  have hk9 : Blk w9 w7.heap.size 30 F := by rw [← hw9]; exact hk8.whole F (by rw [HF4.out]; rfl)
  have h8 : Below w1.heap.size w1 w8 := by rw [hw8]; exact h7.alloc h7.size _
  have h9 : Below w1.heap.size w1 w9 := by rw [← hw9]; exact below_keeps h8 (Keeps.setCells F 0 w8) (Nat.le_refl _) (fun i hi => by rw [hi]; exact h7.size)
  have h79 : Below w7.heap.size w7 w9 := by rw [← hw9, hw8]; exact below_keeps ((Below.refl _ w7).alloc (Nat.le_refl _) _) (Keeps.setCells F 0 _) (Nat.le_refl _) (fun i hi => by rw [hi]; exact Nat.le_refl _)
  have hk69 : Blk w9 g4 30 F := (HK6.out.below h67 HK6.out.lt).below h79 (HK6.out.below h67 HK6.out.lt).lt
  have HA8 : Hid (∀ (o : Oper), o.op = .alloc 30 → ∀ ev, (execOp ev o).run Tryz.prog w7 = .ok (.value (.pointer (some ⟨w7.heap.size, 0, none⟩))) w8) := Lib.hid (fun o ho ev => by rw [hw8]; exact exec_alloc_num w7 o ho ev)
  have HTH8 : Hid (w8.there w7.heap.size 0 F.toArray.size) := Lib.hid (hk8.there 0 _ (by rw [List.size_toArray, HF4.out]; simp))
  have HK9 := Lib.hid hk9
  have HK69 := Lib.hid hk69
  have HW9 := Lib.hid hw9
  have HB9 := Lib.hid h9
  generalize w7.heap.size = g7 at *
  clear hk8 hk9 hw8 hw9 h8 h9 h7 h67 h79 hk69 HK6 HA5 HTH5 HW6
  go_wp2_with (first
    | (refine wpList_store_mid rfl 30 _ _ rfl g7 0 F.toArray rfl rfl HTH8.out HN4.out HF1.out ?_; rw [show F.toArray.toList = F from rfl, HW9.out])
    | (refine wpList_value (o := ⟨some 12, .alloc 30, _, _, _, _⟩) (v := .pointer (some ⟨g7, 0, none⟩)) (w' := w8) rfl (HA8.out _ rfl _) ?_))
  refine (HGB.out _ HB9.out).mono ?_; rintro e w10 ⟨AX, cX, rfl, hoX, hb10, h10⟩
  have HOX := Lib.hid hoX
  have HB10 := Lib.hid h10
  have HBX := Lib.hid hb10
  clear hoX h10 hb10 HA8 HTH8 HW9
  go_wp2_with fail
  refine (HGB.out _ HB10.out).mono ?_; rintro e w11 ⟨AY, cY, rfl, hoY, hb11, h11⟩
  have HOY := Lib.hid hoY
  have HB11 := Lib.hid h11
  have HBY := Lib.hid hb11
  clear hoY h11 hb11
  go_wp2_with fail
  refine (HRGB.out _ HB11.out).mono ?_; rintro e w12 ⟨AZ, cZ, rfl, hrZ, hb12, h12⟩
  have hk4 : Blk w12 g4 30 F := by
    have a := HK69.out.below HBX.out HK69.out.lt
    have b := a.below HBY.out a.lt
    exact b.below hb12 b.lt
  have hk7 : Blk w12 g7 30 F := by
    have a := HK9.out.below HBX.out HK9.out.lt
    have b := a.below HBY.out a.lt
    exact b.below hb12 b.lt
  have hoX : w12.ownsRow w9.heap.size 5 1 (.slice AX gl.length cX) gl.length (gl.map (Value.int .u8)) := (Keeps.of_below (M := fun _ => False) hb12).own ((Keeps.of_below (M := fun _ => False) HBY.out).own HOX.out (fun _ _ h => h)) (fun _ _ h => h)
  have hoY : w12.ownsRow w10.heap.size 5 1 (.slice AY gl.length cY) gl.length (gl.map (Value.int .u8)) := (Keeps.of_below (M := fun _ => False) hb12).own HOY.out (fun _ _ h => h)
  have hxl : ∀ j, (Value.slice AX gl.length cX).ownBlock = some j → w9.heap.size ≤ j ∧ j < w10.heap.size := fun j hj => own_base HOX.out j hj
  have hyl : ∀ j, (Value.slice AY gl.length cY).ownBlock = some j → w10.heap.size ≤ j ∧ j < w11.heap.size := fun j hj => own_base HOY.out j hj
  have hsame : ∀ (A : Option Addr) (c : Nat) (W : World), Drawn w12 W → (∀ V, Drawn w12 V → Rd V .u8 A gl.length gl) → Calls Tryz.prog 13 #[.slice A gl.length c, .slice AZ gl.length cZ] W fun e W' => e = .returned (.bool true) ∧ Drawn w12 W' := fun A c W hW hr => by
    refine (same_any A gl.length c gl AZ gl.length cZ gl W (hr W hW) (hrZ.below (drawn_below hW))).mono ?_
    rintro e W' ⟨rfl, q, rfl⟩
    exact ⟨by simp, by obtain ⟨q2, rfl⟩ := hW; exact (Drawn.refl w12).step _ |>.step _⟩
  have hrX : ∀ V, Drawn w12 V → Rd V .u8 AX gl.length gl := fun V hV => by
    obtain ⟨A, c, e, h, _⟩ := rd_own_any hoX HGLB.out (by omega)
    injection e with e _ _
    subst e
    exact h.below (drawn_below hV)
  have hrY : ∀ V, Drawn w12 V → Rd V .u8 AY gl.length gl := fun V hV => by
    obtain ⟨A, c, e, h, _⟩ := rd_own_any hoY HGLB.out (by omega)
    injection e with e _ _
    subst e
    exact h.below (drawn_below hV)
  have HSX : Hid (∀ W, Drawn w12 W → Calls Tryz.prog 13 #[.slice AX gl.length cX, .slice AZ gl.length cZ] W fun e W' => e = .returned (.bool true) ∧ Drawn w12 W') := Lib.hid fun W hW => hsame AX cX W hW hrX
  have HSY : Hid (∀ W, Drawn w12 W → Calls Tryz.prog 13 #[.slice AY gl.length cY, .slice AZ gl.length cZ] W fun e W' => e = .returned (.bool true) ∧ Drawn w12 W') := Lib.hid fun W hW => hsame AY cY W hW hrY
  have HLF : Hid (∀ W, Drawn w12 W → Calls Tryz.prog 14 #[.slice (some ⟨g, 0, none⟩) n0 cap, .slice A0 n0 c0] W fun e W' => e = .returned (.bool true) ∧ Drawn w12 W') := Lib.hid fun W hW =>
    (HLEFT.out W (below_drawn h12 hW)).mono fun e W' ⟨h1, q, h2⟩ => ⟨h1, by obtain ⟨q2, rfl⟩ := hW; subst h2; exact (Drawn.refl w12).step _ |>.step _⟩
  have HOX2 := Lib.hid hoX
  have HOY2 := Lib.hid hoY
  have HXL := Lib.hid hxl
  have HYL := Lib.hid hyl
  have HB12 := Lib.hid h12
  have HM4 := Lib.hid hk4.range
  have HM7 := Lib.hid hk7.range
  have HD0 := Lib.hid (Drawn.refl w12)
  have hsz9 : w9.heap.size ≤ w10.heap.size := HBX.out.size
  have hsz10 : w10.heap.size ≤ w11.heap.size := HBY.out.size
  have hsz1 : w1.heap.size ≤ w9.heap.size := HB9.out.size
  have HSZ := Lib.hid (And.intro hsz1 (And.intro hsz9 hsz10))
  clear hsame hrX hrY hoX hoY hxl hyl h12 hk4 hk7 hb12 hrZ hsz9 hsz10 hsz1
  go_wp2_with (first
    | (refine wpList_load_want (by rfl) 30 _ rfl g4 0 rfl F _ HM4.out HNU.out rfl HN4L.out ?_)
    | (refine wpList_load_want (by rfl) 30 _ rfl g7 0 rfl F _ HM7.out HNU.out rfl HN4L.out ?_))
  refine (HSX.out _ HD0.out).mono ?_; rintro e w13 ⟨rfl, hd13⟩
  have HD13 := Lib.hid hd13
  clear hd13
  go_wp2_with fail
  refine (HSY.out _ HD13.out).mono ?_; rintro e w14 ⟨rfl, hd14⟩
  have HD14 := Lib.hid hd14
  clear hd14
  go_wp2_with fail
  refine (HLF.out _ HD14.out).mono ?_; rintro e w15 ⟨rfl, hd15⟩
  have h15 : Below w1.heap.size w1 w15 := below_drawn HB12.out hd15
  have hbw15 : Below w.heap.size w w15 := HBW.out.trans (h15.mono HBW.out.size)
  have hbb := book_new (base := w.heap.size) w15 hbw15.size
  obtain ⟨w16, hw16⟩ : ∃ w16, w16 = w15.alloc (.cells zBook.toArray 52) := ⟨_, rfl⟩
  obtain ⟨w17, hw17⟩ : ∃ w17, w16.setCells w15.heap.size 0 zBook = w17 := ⟨_, rfl⟩
  rw [← hw16, hw17] at hbb
  obtain ⟨hbk, hbel⟩ := hbb
  have HA16 : Hid (∀ (o : Oper), o.op = .alloc 52 → ∀ ev, (execOp ev o).run Tryz.prog w15 = .ok (.value (.pointer (some ⟨w15.heap.size, 0, none⟩))) w16) := Lib.hid (fun o ho ev => by rw [hw16]; exact exec_alloc_book w15 o ho ev)
  have HTH16 : Hid (w16.there w15.heap.size 0 zBook.toArray.size) := Lib.hid (by rw [hw16]; exact (Blk.new w15 52 zBook).there 0 _ (by simp))
  have HS16 : Hid ((Tryz.prog.info? 52).map (·.size) = some zBook.toArray.size) := Lib.hid (by kernel_rfl)
  have H116 : Hid (zBook.toArray.all (·.oneCell') = true) := Lib.hid (by kernel_rfl)
  have HBU : Hid (∀ W : World, (Instr.build 52 #[]).run Tryz.prog W = .ok (.agg zBook.toArray) W) := Lib.hid run_build_book
  have hbu := HBU.out
  have HW17 := Lib.hid hw17
  have hTr : RowIs w.heap.size w17 ⟨some ⟨g, 0, none⟩, n0, cap, none, 0, 0, 1⟩ bs := ((HTR.out.below h15)).below hbel
  have hXr : RowIs w.heap.size w17 ⟨AX, gl.length, cX, none, 0, 0, 2⟩ gl := by
    have a : RowIs w.heap.size w12 ⟨AX, gl.length, cX, none, 0, 0, 2⟩ gl := own_lower HOX2.out (Nat.le_trans HBW.out.size HSZ.out.1)
    exact (a.below (drawn_below hd15)).below hbel
  have hYr : RowIs w.heap.size w17 ⟨AY, gl.length, cY, none, 0, 0, 3⟩ gl := by
    have a : RowIs w.heap.size w12 ⟨AY, gl.length, cY, none, 0, 0, 3⟩ gl := own_lower HOY2.out (Nat.le_trans HBW.out.size (Nat.le_trans HSZ.out.1 HSZ.out.2.1))
    exact (a.below (drawn_below hd15)).below hbel
  have hbw17 : Below w.heap.size w w17 := hbw15.trans (hbel.mono hbw15.size)
  have HTR2 := Lib.hid hTr
  have HXR := Lib.hid hXr
  have HYR := Lib.hid hYr
  have HBK := Lib.hid hbk
  have HBW17 := Lib.hid hbw17
  have hBw15 := hbw15.size
  have HB15 := Lib.hid hBw15
  generalize w15.heap.size = B at *
  clear hTr hXr hYr hbk hbw17 hbw15 hbel hw16 hw17 h15 hd15 hbu HBU hBw15
  go_wp2_with (first
    | (refine wpList_store_mid rfl 52 _ _ rfl B 0 zBook.toArray rfl rfl HTH16.out HS16.out H116.out ?_; rw [show zBook.toArray.toList = zBook from rfl, HW17.out])
    | (refine wpList_value (o := ⟨some 23, .alloc 52, _, _, _, _⟩) (v := .pointer (some ⟨B, 0, none⟩)) (w' := w16) rfl (HA16.out _ rfl _) ?_))
  refine (bytes_any w.heap.size B [] (some ⟨g, 0, none⟩) n0 cap w17 HBK.out HBW17.out.size (by simp)).mono ?_
  rintro e w18 ⟨rfl, hb18, hk18⟩
  have hb18' : BookAt w.heap.size w18 B [⟨some ⟨g, 0, none⟩, n0, cap, none, 0, 0, 1⟩] := hb18
  have hw18 : Below w.heap.size w w18 := below_keeps HBW17.out hk18 (Nat.le_refl _) (fun i hi => hi.lo HB15.out HBW17.out.size)
  have HBK1 := Lib.hid hb18'
  have HBW18 := Lib.hid hw18
  have HT18 := Lib.hid (HTR2.out.keepBook HBK.out hk18)
  have HX18 := Lib.hid (HXR.out.keepBook HBK.out hk18)
  have HY18 := Lib.hid (HYR.out.keepBook HBK.out hk18)
  clear hb18 hb18' hk18 hw18 HTR2 HXR HYR HBK
  go_wp2_with fail
  refine (bytes_any w.heap.size B _ AX gl.length cX w18 HBK1.out HBW18.out.size (by simp)).mono ?_
  rintro e w19 ⟨rfl, hb19, hk19⟩
  have hb19' : BookAt w.heap.size w19 B [⟨some ⟨g, 0, none⟩, n0, cap, none, 0, 0, 1⟩, ⟨AX, gl.length, cX, none, 0, 0, 2⟩] := hb19
  have hw19 : Below w.heap.size w w19 := below_keeps HBW18.out hk19 (Nat.le_refl _) (fun i hi => hi.lo HB15.out HBW18.out.size)
  have HBK2 := Lib.hid hb19'
  have HBW19 := Lib.hid hw19
  have HT19 := Lib.hid (HT18.out.keepBook HBK1.out hk19)
  have HX19 := Lib.hid (HX18.out.keepBook HBK1.out hk19)
  have HY19 := Lib.hid (HY18.out.keepBook HBK1.out hk19)
  clear hb19 hb19' hk19 hw19 HT18 HX18 HY18 HBK1
  go_wp2_with fail
  refine (bytes_any w.heap.size B _ AY gl.length cY w19 HBK2.out HBW19.out.size (by simp)).mono ?_
  rintro e w20 ⟨rfl, hb20, hk20⟩
  have hb20' : BookAt w.heap.size w20 B [⟨some ⟨g, 0, none⟩, n0, cap, none, 0, 0, 1⟩, ⟨AX, gl.length, cX, none, 0, 0, 2⟩, ⟨AY, gl.length, cY, none, 0, 0, 3⟩] := hb20
  have hw20 : Below w.heap.size w w20 := below_keeps HBW19.out hk20 (Nat.le_refl _) (fun i hi => hi.lo HB15.out HBW19.out.size)
  have hT20 := HT19.out.keepBook HBK2.out hk20
  have hX20 := HX19.out.keepBook HBK2.out hk20
  have hY20 := HY19.out.keepBook HBK2.out hk20
  have hgl2 := HGLT.out
  obtain ⟨hsz1, hsz9, hsz10⟩ := HSZ.out
  have hun : Unlike [⟨some ⟨g, 0, none⟩, n0, cap, none, 0, 0, 1⟩, ⟨AX, gl.length, cX, none, 0, 0, 2⟩, ⟨AY, gl.length, cY, none, 0, 0, 3⟩] := by
    have xg : ∀ j, (Value.slice (some ⟨g, 0, none⟩) n0 cap).ownBlock = some j → j = g := fun j hj => by
      have : g = j := by simpa [Value.ownBlock] using hj
      exact this.symm
    refine unlike_of_pairwise (List.pairwise_cons.2 ⟨fun b hb => ?_, List.pairwise_cons.2 ⟨fun b hb => ?_, List.pairwise_cons.2 ⟨fun b hb => by simp at hb, List.Pairwise.nil⟩⟩⟩)
    · simp only [List.mem_cons, List.not_mem_nil, or_false] at hb
      rcases hb with rfl | rfl
      · intro j h1 h2
        have := xg j h1
        have := HXL.out j h2
        omega
      · intro j h1 h2
        have := xg j h1
        have := HYL.out j h2
        omega
    · simp only [List.mem_cons, List.not_mem_nil, or_false] at hb
      subst hb
      intro j h1 h2
      have := HXL.out j h1
      have := HYL.out j h2
      omega
  have hap := apart_any w.heap.size B _ w20 hb20' (fun i h hi => by
    rcases i with _ | _ | _ | i
    · obtain rfl := Option.some.inj hi; exact ⟨_, hT20⟩
    · obtain rfl := Option.some.inj hi; exact ⟨_, hX20⟩
    · obtain rfl := Option.some.inj hi; exact ⟨_, hY20⟩
    · simp at hi) ⟨hun, fun i h hi => by
    rcases i with _ | _ | _ | i
    · obtain rfl := Option.some.inj hi; simp
    · obtain rfl := Option.some.inj hi; simp
    · obtain rfl := Option.some.inj hi; simp
    · simp at hi, fun i h hi => by
    rcases i with _ | _ | _ | i
    · obtain rfl := Option.some.inj hi; simp only; omega
    · obtain rfl := Option.some.inj hi; simp only; omega
    · obtain rfl := Option.some.inj hi; simp only; omega
    · simp at hi⟩ hw20.size
  have HAP := Lib.hid hap
  have HW20 := Lib.hid hw20
  clear hap hw20 hun hT20 hX20 hY20 hb20 hb20' hk20 hsz1 hsz9 hsz10 hgl2
  go_wp2_with fail
  refine HAP.out.mono ?_; rintro e w21 ⟨rfl, hk21⟩
  have HW21 := Lib.hid (below_keeps HW20.out hk21 (Nat.le_refl _) (fun i hi => hi))
  clear hk21
  go_wp2_with fail
  go_ret
  exact ⟨rfl, HW21.out⟩

theorem numsRead_walk (A0 : Option Addr) (n0 c0 : Nat) (bs : List Int) (k : Int) (w : World) (r0 : Rd w .u8 A0 n0 bs) (l0 : n0 ≤ c0) (z0 : A0 = none → c0 = 0) (m0 : c0 ≤ 140737488351232) (q0 : 0 < c0 → ∃ b off, A0 = some ⟨b, off, none⟩) (wk : (Lit.int .i64 k).wf = true) :
    Calls Tryz.prog 3 #[.slice A0 n0 c0, .int .i64 k] w fun e w' => e = .returned (.bool true) ∧ Below w.heap.size w w' := by
  by_cases hle : 1048576 < n0
  · exact read_beyond A0 n0 c0 k w r0.big hle
  · exact read_at A0 n0 c0 bs k w r0 l0 z0 (by omega)
end Go.Proofs.YtigcpjjmafpjhaaGreatDoor
