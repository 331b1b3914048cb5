/- The walk over the law NumsWritten. -/
import Derived.Test.YtigcpjjmafpjhaaGreatDoorNWritP
import Derived.Test.YtigcpjjmafpjhaaGreatDoorOpen
namespace Go.Proofs.YtigcpjjmafpjhaaGreatDoor
open Go.RowKit
set_option linter.unusedSimpArgs false
set_option linter.unusedVariables false

def givenC (n k a b c d : Int) : List Value := [.int .u64 n, .int .i64 k, .int .u64 a, .int .u64 b, .int .u64 c, .int .u64 d]

set_option maxRecDepth 100000 in
set_option maxHeartbeats 4000000 in
theorem written_beyond (A0 : Option Addr) (n0 c0 : Nat) (A1 : Option Addr) (n1 c1 : Nat) (n k a b c d : Int) (w : World) (hb0 : n0 ≤ 140737488351232) (hb1 : n1 ≤ 140737488351232) (hle : 1048576 < n0 + n1) :
    Calls Tryz.prog 4 #[.slice A0 n0 c0, .slice A1 n1 c1, .agg #[.int .u64 n, .int .i64 k, .int .u64 a, .int .u64 b, .int .u64 c, .int .u64 d]] w fun e w' => e = .returned (.bool true) ∧ Below w.heap.size w w' := by
  have hbe : Calls Tryz.prog 5 #[.slice (some ⟨w.heap.size + 1, 0, none⟩) 2 2] ((w.alloc (.cells #[.int .u64 n, .int .i64 k, .int .u64 a, .int .u64 b, .int .u64 c, .int .u64 d] 57)).alloc (.cells #[.int .i64 n0, .int .i64 n1] 3)) fun e w' => e = .returned (.bool true) ∧ (w.alloc (.cells #[.int .u64 n, .int .i64 k, .int .u64 a, .int .u64 b, .int .u64 c, .int .u64 d] 57)).alloc (.cells #[.int .i64 n0, .int .i64 n1] 3) = w' := by
    have hk := Blk.new (w.alloc (.cells #[.int .u64 n, .int .i64 k, .int .u64 a, .int .u64 b, .int .u64 c, .int .u64 d] 57)) 3 [.int .i64 n0, .int .i64 n1]
    rw [World.size_alloc] at hk
    have := beyond2_any (w.heap.size + 1) n0 n1 2 _ (by omega) (by omega) (hk.cell 0) (hk.cell 1)
    rwa [decide_eq_true (by omega)] at this
  have hB2 : Below w.heap.size w ((w.alloc (.cells #[.int .u64 n, .int .i64 k, .int .u64 a, .int .u64 b, .int .u64 c, .int .u64 d] 57)).alloc (.cells #[.int .i64 n0, .int .i64 n1] 3)) := ((Below.refl _ _).alloc (Nat.le_refl _) _).alloc (by simp) _
  have HB := Lib.hid hbe
  have HB2 := Lib.hid hB2
  clear hbe hB2
  go_enter Tryz.func4, Tryz.ntmps4
  go_wp2_with fail
  refine HB.out.mono ?_
  rintro e w2 ⟨rfl, rfl⟩
  generalize (w.alloc (.cells #[.int .u64 n, .int .i64 k, .int .u64 a, .int .u64 b, .int .u64 c, .int .u64 d] 57)).alloc (.cells #[.int .i64 n0, .int .i64 n1] 3) = w2 at *
  go_wp2_with fail
  go_ret
  exact ⟨rfl, HB2.out⟩

set_option maxRecDepth 100000 in
set_option maxHeartbeats 16000000 in
theorem written_at (A0 : Option Addr) (n0 c0 : Nat) (x0 : List Int) (A1 : Option Addr) (n1 c1 : Nat) (x1 : List Int) (n k a b c d : Int) (w : World) (r0 : Rd w .u8 A0 n0 x0) (l0 : n0 ≤ c0) (z0 : A0 = none → c0 = 0) (r1 : Rd w .u8 A1 n1 x1) (l1 : n1 ≤ c1) (z1 : A1 = none → c1 = 0) (hle : n0 + n1 ≤ 1048576)
    (hn : 0 ≤ n ∧ n ≤ 18446744073709551615) (ha : 0 ≤ a ∧ a ≤ 18446744073709551615) (hb : 0 ≤ b ∧ b ≤ 18446744073709551615) (hc : 0 ≤ c ∧ c ≤ 18446744073709551615) (hd : 0 ≤ d ∧ d ≤ 18446744073709551615) :
    Calls Tryz.prog 4 #[.slice A0 n0 c0, .slice A1 n1 c1, .agg #[.int .u64 n, .int .i64 k, .int .u64 a, .int .u64 b, .int .u64 c, .int .u64 d]] w fun e w' => e = .returned (.bool true) ∧ Below w.heap.size w w' := by
  have hbe : Calls Tryz.prog 5 #[.slice (some ⟨w.heap.size + 1, 0, none⟩) 2 2] ((w.alloc (.cells #[.int .u64 n, .int .i64 k, .int .u64 a, .int .u64 b, .int .u64 c, .int .u64 d] 57)).alloc (.cells #[.int .i64 n0, .int .i64 n1] 3)) fun e w' => e = .returned (.bool false) ∧ (w.alloc (.cells #[.int .u64 n, .int .i64 k, .int .u64 a, .int .u64 b, .int .u64 c, .int .u64 d] 57)).alloc (.cells #[.int .i64 n0, .int .i64 n1] 3) = w' := by
    have hk := Blk.new (w.alloc (.cells #[.int .u64 n, .int .i64 k, .int .u64 a, .int .u64 b, .int .u64 c, .int .u64 d] 57)) 3 [.int .i64 n0, .int .i64 n1]
    rw [World.size_alloc] at hk
    have := beyond2_any (w.heap.size + 1) n0 n1 2 _ (by omega) (by omega) (hk.cell 0) (hk.cell 1)
    rwa [decide_eq_false (by omega)] at this
  have hBa : Below w.heap.size w ((w.alloc (.cells #[.int .u64 n, .int .i64 k, .int .u64 a, .int .u64 b, .int .u64 c, .int .u64 d] 57)).alloc (.cells #[.int .i64 n0, .int .i64 n1] 3)) := ((Below.refl _ _).alloc (Nat.le_refl _) _).alloc (by simp) _
  have hGa : Blk ((w.alloc (.cells #[.int .u64 n, .int .i64 k, .int .u64 a, .int .u64 b, .int .u64 c, .int .u64 d] 57)).alloc (.cells #[.int .i64 n0, .int .i64 n1] 3)) w.heap.size 57 (givenC n k a b c d) := (Blk.new w 57 (givenC n k a b c d)).alloc _
  have hl0 := r0.len
  have hl1 := r1.len
  have HB := Lib.hid hbe
  have HBA := Lib.hid hBa
  have HGA := Lib.hid hGa
  have HR0 := Lib.hid r0
  have HR1 := Lib.hid r1
  have HNN := Lib.hid (And.intro hn (And.intro ha (And.intro hb (And.intro hc hd))))
  clear hbe hBa hGa r0 r1 hn ha hb hc hd
  go_enter Tryz.func4, Tryz.ntmps4
  go_wp2_with fail
  refine HB.out.mono ?_
  rintro e wa ⟨rfl, rfl⟩
  generalize (w.alloc (.cells #[.int .u64 n, .int .i64 k, .int .u64 a, .int .u64 b, .int .u64 c, .int .u64 d] 57)).alloc (.cells #[.int .i64 n0, .int .i64 n1] 3) = wa at *
  have htw := twin2_any A0 n0 c0 x0 wa (HR0.out.below HBA.out) l0 (by omega)
  have HTW := Lib.hid htw
  clear htw HB
  go_wp2_with fail
  refine HTW.out.mono ?_
  rintro e w1 ⟨g, cap, rfl, hcap, hcm, hg, hlt, ho, hB1⟩
  rw [hl0] at hcap ho ⊢
  have hBw1 : Below w.heap.size w w1 := HBA.out.trans (hB1.mono HBA.out.size)
  have htw := twin2_any A1 n1 c1 x1 w1 (HR1.out.below hBw1) l1 (by omega)
  have HTW2 := Lib.hid htw
  have HO1 := Lib.hid ho
  have HB1 := Lib.hid hB1
  have HBW1 := Lib.hid hBw1
  have HG1 := Lib.hid (And.intro hcap (And.intro hcm (And.intro hg hlt)))
  clear htw HTW ho hB1 hBw1 hcap hcm hg hlt
  go_wp2_with fail
  refine HTW2.out.mono ?_
  rintro e w2 ⟨h, caph, rfl, hcaph, hcmh, hgh, hlth, hoh, hB2⟩
  rw [hl1] at hcaph hoh ⊢
  obtain ⟨hcap, hcm, hg, hlt⟩ := HG1.out
  have hby0 : ∀ x ∈ x0, 0 ≤ x ∧ x ≤ 255 := rd_bytes HR0.out
  have hby1 : ∀ x ∈ x1, 0 ≤ x ∧ x ≤ 255 := rd_bytes HR1.out
  have h77 : ∀ (l : List Int), (∀ x ∈ l, 0 ≤ x ∧ x ≤ 255) → ∀ x ∈ l ++ [77], 0 ≤ x ∧ x ≤ 255 := fun l hl x hx => by
    rcases List.mem_append.1 hx with h | h
    · exact hl x h
    · obtain rfl : x = 77 := by simpa using h
      omega
  have r77 : Rd w2 .u8 (some ⟨g, 0, none⟩) (n0 + 1) (x0 ++ [77]) := (rd_own HO1.out (h77 x0 hby0) (by omega)).below hB2
  have s77 : Rd w2 .u8 (some ⟨h, 0, none⟩) (n1 + 1) (x1 ++ [77]) := rd_own hoh (h77 x1 hby1) (by omega)
  have rt : Rd w2 .u8 (some ⟨g, 0, none⟩) n0 x0 := by
    have := r77.cut n0 (by omega)
    rwa [List.take_append_of_le_length (by omega), List.take_of_length_le (by omega)] at this
  have ru : Rd w2 .u8 (some ⟨h, 0, none⟩) n1 x1 := by
    have := s77.cut n1 (by omega)
    rwa [List.take_append_of_le_length (by omega), List.take_of_length_le (by omega)] at this
  have hBw2 : Below w.heap.size w w2 := HBW1.out.trans (hB2.mono HBW1.out.size)
  have hTo : RowW wa.heap.size w1 (.slice (some ⟨g, 0, none⟩) n0 cap) n0 x0 := by
    have := own_take HO1.out (m := n0) (by omega)
    rw [← List.map_take, List.take_append_of_le_length (by omega), List.take_of_length_le (by omega)] at this
    exact RowW.of_own this
  have hTw : RowW wa.heap.size w2 (.slice (some ⟨g, 0, none⟩) n0 cap) n0 x0 := hTo.keep (Keeps.of_below (M := fun _ => False) hB2) (fun _ _ h => h)
  have hUw : RowW w1.heap.size w2 (.slice (some ⟨h, 0, none⟩) n1 caph) n1 x1 := by
    have := own_take hoh (m := n1) (by omega)
    rw [← List.map_take, List.take_append_of_le_length (by omega), List.take_of_length_le (by omega)] at this
    exact RowW.of_own this
  have hG2 : Blk w2 w.heap.size 57 (givenC n k a b c d) := (HGA.out.below HB1.out HGA.out.lt).below hB2 (HGA.out.below HB1.out HGA.out.lt).lt
  have rA0 : ∀ W, Below w2.heap.size w2 W → Rd W .u8 A0 n0 x0 := fun W hW => HR0.out.below (hBw2.trans (hW.mono hBw2.size))
  have rA1 : ∀ W, Below w2.heap.size w2 W → Rd W .u8 A1 n1 x1 := fun W hW => HR1.out.below (hBw2.trans (hW.mono hBw2.size))
  obtain ⟨bx, hbx⟩ : ∃ bx, x0 ++ be n (putMany k) = bx := ⟨_, rfl⟩
  obtain ⟨by_, hby_⟩ : ∃ by_, x0 ++ flat [d, c, b, a] 8 = by_ := ⟨_, rfl⟩
  obtain ⟨bv, hbv⟩ : ∃ bv, x0 ++ be n1 4 ++ x1 = bv := ⟨_, rfl⟩
  have hbxb : (∀ x ∈ bx, 0 ≤ x ∧ x ≤ 255) ∧ bx.length ≤ 2097152 := by
    rw [← hbx]
    refine ⟨fun x hx => ?_, ?_⟩
    · rcases List.mem_append.1 hx with h | h
      · exact hby0 x h
      · exact be_byte _ _ x h
    · rw [List.length_append, be_length]; have := putMany_le k; omega
  have hbyb : (∀ x ∈ by_, 0 ≤ x ∧ x ≤ 255) ∧ by_.length ≤ 2097152 := by
    rw [← hby_]
    refine ⟨fun x hx => ?_, ?_⟩
    · rcases List.mem_append.1 hx with h | h
      · exact hby0 x h
      · exact flat4_byte a b c d x h
    · rw [List.length_append, flat4_length]; omega
  have hbvb : (∀ x ∈ bv, 0 ≤ x ∧ x ≤ 255) ∧ bv.length ≤ 2097152 := by
    rw [← hbv]
    refine ⟨fun x hx => ?_, ?_⟩
    · rcases List.mem_append.1 hx with h | h
      · rcases List.mem_append.1 h with h | h
        · exact hby0 x h
        · exact be_byte _ _ x h
      · exact hby1 x h
    · rw [List.length_append, List.length_append, be_length]; omega
  obtain ⟨hn, ha, hb, hc, hd⟩ := HNN.out
  have hput : ∀ W, Below w2.heap.size w2 W → Calls Tryz.prog 17 #[.slice (some ⟨g, 0, none⟩) n0 cap, .int .u64 n, .int .i64 k] W fun e W' => OwnB W bx e W' := fun W hW => by
    have := put_any (some ⟨g, 0, none⟩) n0 cap x0 n k W (rt.below hW) (by omega) hn.1 hn.2
    rw [hbx] at this
    exact this.mono fun e W' h => h.own (by omega)
  have hputl : ∀ W, Below w2.heap.size w2 W → Calls Tryz.prog 18 #[.slice (some ⟨g, 0, none⟩) n0 cap, .agg #[.int .u64 a, .int .u64 b, .int .u64 c, .int .u64 d]] W fun e W' => OwnB W by_ e W' := fun W hW => by
    have := putlong_any (some ⟨g, 0, none⟩) n0 cap x0 a b c d W (rt.below hW) (by omega) ha hb hc hd
    rw [hby_] at this
    exact this.mono fun e W' h => h.own (by omega)
  have hputb : ∀ W, Below w2.heap.size w2 W → Calls Tryz.prog 19 #[.slice (some ⟨g, 0, none⟩) n0 cap, .slice (some ⟨h, 0, none⟩) n1 caph] W fun e W' => OwnB W bv e W' := fun W hW => by
    have := putbytes_row (some ⟨g, 0, none⟩) n0 cap x0 (some ⟨h, 0, none⟩) n1 caph x1 W (rt.below hW) (by omega) (ru.below hW) (fun e => by cases e) (by omega) (by omega)
    rw [hbv] at this
    exact this.mono fun e W' h => h.own
  have hrput : ∀ W, Below w2.heap.size w2 W → Calls Tryz.prog 20 #[.slice A0 n0 c0, .int .u64 n, .int .i64 k] W (NewB W bx) := fun W hW => by
    have := rput_any A0 n0 c0 x0 n k W (rA0 W hW) z0 (by omega) hn.1 hn.2
    rwa [hbx] at this
  have hrputl : ∀ W, Below w2.heap.size w2 W → Calls Tryz.prog 21 #[.slice A0 n0 c0, .agg #[.int .u64 a, .int .u64 b, .int .u64 c, .int .u64 d]] W (NewB W by_) := fun W hW => by
    have := rputlong_any A0 n0 c0 x0 a b c d W (rA0 W hW) z0 (by omega) ha hb hc hd
    rwa [hby_] at this
  have hrputb : ∀ W, Below w2.heap.size w2 W → Calls Tryz.prog 22 #[.slice A0 n0 c0, .slice A1 n1 c1] W (NewB W bv) := fun W hW => by
    have := rputbytes_any A0 n0 c0 x0 A1 n1 c1 x1 W (rA0 W hW) z0 (rA1 W hW) z1 (by omega) (by omega)
    rwa [hbv] at this
  have hleft : ∀ W, Below w2.heap.size w2 W → Calls Tryz.prog 14 #[.slice (some ⟨g, 0, none⟩) n0 cap, .slice A0 n0 c0] W fun e W' => e = .returned (.bool true) ∧ Drawn W W' := fun W hW => left_any g n0 cap x0 A0 c0 W hcap hcm (r77.below hW) (rA0 W hW)
  have hleft2 : ∀ W, Below w2.heap.size w2 W → Calls Tryz.prog 14 #[.slice (some ⟨h, 0, none⟩) n1 caph, .slice A1 n1 c1] W fun e W' => e = .returned (.bool true) ∧ Drawn W W' := fun W hW => left_any h n1 caph x1 A1 c1 W hcaph hcmh (s77.below hW) (rA1 W hW)
  have HPUT := Lib.hid hput
  have HPUTL := Lib.hid hputl
  have HPUTB := Lib.hid hputb
  have HRPUT := Lib.hid hrput
  have HRPUTL := Lib.hid hrputl
  have HRPUTB := Lib.hid hrputb
  have HLEFT := Lib.hid hleft
  have HLEFT2 := Lib.hid hleft2
  have HT2 := Lib.hid hTw
  have HU2 := Lib.hid hUw
  have HTL : Hid (LiesIn (Value.slice (some ⟨g, 0, none⟩) n0 cap) wa.heap.size w1.heap.size) := Lib.hid hTo.lies
  have HUL : Hid (LiesIn (Value.slice (some ⟨h, 0, none⟩) n1 caph) w1.heap.size w2.heap.size) := Lib.hid hUw.lies
  have HG2 := Lib.hid hG2
  have HBW := Lib.hid hBw2
  have HBX := Lib.hid hbxb
  have HBY := Lib.hid hbyb
  have HBV := Lib.hid hbvb
  have HSZ0 : Hid (w.heap.size ≤ wa.heap.size ∧ wa.heap.size ≤ w1.heap.size ∧ w1.heap.size ≤ w2.heap.size) := Lib.hid ⟨HBA.out.size, HB1.out.size, hB2.size⟩
  have HB2 := Lib.hid (Below.refl w2.heap.size w2)
  have HNA : Hid (n0 ≤ 1048576 ∧ n1 ≤ 1048576) := Lib.hid (by omega)
  have hc0 : w2.cell? ⟨w.heap.size, 0, none⟩ = some (.int .u64 n) := hG2.cell 0
  have hc1 : w2.cell? ⟨w.heap.size, 1, none⟩ = some (.int .i64 k) := hG2.cell 1
  clear hput hputl hputb hrput hrputl hrputb hleft hleft2 hTo hTw hUw hG2 hBw2 hbxb hbyb hbvb rA0 rA1 rt ru r77 s77 h77 hby0 hby1 hcap hcm hg hlt hcaph hcmh hgh hlth hoh hB2 HO1 HB1 HBW1 HG1 HTW2 HR0 HR1 HGA HBA HNN hn ha hb hc hd hbx hby_ hbv hl0 hl1 hle
  go_wp2_with fail
  refine (HPUT.out _ HB2.out).mono ?_; rintro e w3 ⟨AX, cX, mX, hmX, rfl, hX3, h23⟩
  have hc2 : w3.cell? ⟨w.heap.size, 2, none⟩ = some (.int .u64 a) := (HG2.out.below h23 HG2.out.lt).cell 2
  have hc3 : w3.cell? ⟨w.heap.size, 3, none⟩ = some (.int .u64 b) := (HG2.out.below h23 HG2.out.lt).cell 3
  have hc4 : w3.cell? ⟨w.heap.size, 4, none⟩ = some (.int .u64 c) := (HG2.out.below h23 HG2.out.lt).cell 4
  have hc5 : w3.cell? ⟨w.heap.size, 5, none⟩ = some (.int .u64 d) := (HG2.out.below h23 HG2.out.lt).cell 5
  have HX3 := Lib.hid hX3
  have H23 := Lib.hid h23
  have HMX := Lib.hid hmX
  clear hX3 h23 hmX hc0 hc1
  go_wp2_with fail
  refine (HPUTL.out _ H23.out).mono ?_; rintro e w4 ⟨AY, cY, mY, hmY, rfl, hY4, h34⟩
  have HY4 := Lib.hid hY4
  have H34 := Lib.hid h34
  have HMY := Lib.hid hmY
  have H24 := Lib.hid (H23.out.trans (h34.mono H23.out.size))
  clear hY4 h34 hmY hc2 hc3 hc4 hc5
  go_wp2_with fail
  refine (HPUTB.out _ H24.out).mono ?_; rintro e w5 ⟨AV, cV, mV, hmV, rfl, hV5, h45⟩
  have HV5 := Lib.hid hV5
  have H45 := Lib.hid h45
  have HMV := Lib.hid hmV
  have H25 := Lib.hid (H24.out.trans (h45.mono H24.out.size))
  clear hV5 h45 hmV
  go_wp2_with fail
  refine (HPUTB.out _ H25.out).mono ?_; rintro e w6 ⟨AW, cW, mW, hmW, rfl, hW6, h56⟩
  have h26 : Below w2.heap.size w2 w6 := H25.out.trans (h56.mono H25.out.size)
  have h46 : Below w4.heap.size w4 w6 := H45.out.trans (h56.mono H45.out.size)
  have h36 : Below w3.heap.size w3 w6 := H34.out.trans (h46.mono H34.out.size)
  have hT6 := HT2.out.keep (Keeps.of_below (M := fun _ => False) h26) (fun _ _ h => h)
  have hU6 := HU2.out.keep (Keeps.of_below (M := fun _ => False) h26) (fun _ _ h => h)
  have hX6 := HX3.out.keep (Keeps.of_below (M := fun _ => False) h36) (fun _ _ h => h)
  have hY6 := HY4.out.keep (Keeps.of_below (M := fun _ => False) h46) (fun _ _ h => h)
  have hV6 := HV5.out.keep (Keeps.of_below (M := fun _ => False) h56) (fun _ _ h => h)
  have hG6 := HG2.out.below h26 HG2.out.lt
  have hs3 : w2.heap.size ≤ w3.heap.size := H23.out.size
  have hs4 : w3.heap.size ≤ w4.heap.size := H34.out.size
  have hs5 : w4.heap.size ≤ w5.heap.size := H45.out.size
  have hs6 : w5.heap.size ≤ w6.heap.size := h56.size
  obtain ⟨hsa, hs1, hs2⟩ := HSZ0.out
  have rX : Rd w6 .u8 AX mX bx := hX6.rd HBX.out.1 (by have := HMX.out; have := HBX.out.2; omega)
  have rY : Rd w6 .u8 AY mY by_ := hY6.rd HBY.out.1 (by have := HMY.out; have := HBY.out.2; omega)
  have rV : Rd w6 .u8 AV mV bv := hV6.rd HBV.out.1 (by have := HMV.out; have := HBV.out.2; omega)
  have rW : Rd w6 .u8 AW mW bv := hW6.rd HBV.out.1 (by have := HBV.out.2; omega)
  have hsame : ∀ (A : Option Addr) (m c : Nat) (bs : List Int), Rd w6 .u8 A m bs → ∀ (W : World), Below w6.heap.size w6 W → ∀ (A' : Option Addr) (m' c' : Nat), Rd W .u8 A' m' bs → Calls Tryz.prog 13 #[.slice A m c, .slice A' m' c'] W fun e W' => e = .returned (.bool true) ∧ Below w6.heap.size w6 W' := fun A m c bs hr W hW A' m' c' hr' => by
    refine (same_any A m c bs A' m' c' bs W (hr.below hW) hr').mono ?_
    rintro e W' ⟨rfl, hdr⟩
    exact ⟨by simp, below_drawn hW hdr⟩
  have HSX : Hid (∀ (W : World), Below w6.heap.size w6 W → ∀ (A' : Option Addr) (m' c' : Nat), Rd W .u8 A' m' bx → Calls Tryz.prog 13 #[.slice AX mX cX, .slice A' m' c'] W fun e W' => e = .returned (.bool true) ∧ Below w6.heap.size w6 W') := Lib.hid (hsame AX mX cX bx rX)
  have HSY : Hid (∀ (W : World), Below w6.heap.size w6 W → ∀ (A' : Option Addr) (m' c' : Nat), Rd W .u8 A' m' by_ → Calls Tryz.prog 13 #[.slice AY mY cY, .slice A' m' c'] W fun e W' => e = .returned (.bool true) ∧ Below w6.heap.size w6 W') := Lib.hid (hsame AY mY cY by_ rY)
  have HSV : Hid (∀ (W : World), Below w6.heap.size w6 W → ∀ (A' : Option Addr) (m' c' : Nat), Rd W .u8 A' m' bv → Calls Tryz.prog 13 #[.slice AV mV cV, .slice A' m' c'] W fun e W' => e = .returned (.bool true) ∧ Below w6.heap.size w6 W') := Lib.hid (hsame AV mV cV bv rV)
  have HSW : Hid (∀ (W : World), Below w6.heap.size w6 W → ∀ (A' : Option Addr) (m' c' : Nat), Rd W .u8 A' m' bv → Calls Tryz.prog 13 #[.slice AW mW cW, .slice A' m' c'] W fun e W' => e = .returned (.bool true) ∧ Below w6.heap.size w6 W') := Lib.hid (hsame AW mW cW bv rW)
  have HRV : Hid (∀ W, Below w6.heap.size w6 W → Rd W .u8 AV mV bv) := Lib.hid fun W hW => rV.below hW
  have HREF : Hid (∀ (f : FuncId) (args : Array Value) (bs : List Int), (∀ W, Below w2.heap.size w2 W → Calls Tryz.prog f args W (NewB W bs)) → ∀ W, Below w6.heap.size w6 W → Calls Tryz.prog f args W fun e W' => ∃ A c m, e = .returned (.slice A m c) ∧ Rd W' .u8 A m bs ∧ Below w6.heap.size w6 W') := Lib.hid fun f args bs hf W hW =>
    (hf W (h26.trans (hW.mono h26.size))).mono fun e W' ⟨A, c, m, _, he, hr, _, _, hB⟩ => ⟨A, c, m, he, hr, hW.trans (hB.mono hW.size)⟩
  have HLF : Hid (∀ (args : Array Value), (∀ W, Below w2.heap.size w2 W → Calls Tryz.prog 14 args W fun e W' => e = .returned (.bool true) ∧ Drawn W W') → ∀ W, Below w6.heap.size w6 W → Calls Tryz.prog 14 args W fun e W' => e = .returned (.bool true) ∧ Below w6.heap.size w6 W') := Lib.hid fun args hf W hW =>
    (hf W (h26.trans (hW.mono h26.size))).mono fun e W' ⟨he, hD⟩ => ⟨he, below_drawn hW hD⟩
  have hrows : RowsAre w.heap.size w6 [⟨some ⟨g, 0, none⟩, n0, cap, none, 0, 0, 1⟩, ⟨some ⟨h, 0, none⟩, n1, caph, none, 0, 0, 2⟩, ⟨AX, mX, cX, none, 0, 0, 3⟩, ⟨AY, mY, cY, none, 0, 0, 4⟩, ⟨AV, mV, cV, none, 0, 0, 5⟩, ⟨AW, mW, cW, none, 0, 0, 6⟩] :=
    .cons (hT6.lower hsa) (.cons (hU6.lower (by omega)) (.cons (hX6.lower (by omega)) (.cons (hY6.lower (by omega)) (.cons (hV6.lower (by omega)) (.cons (hW6.lower (by omega)) .nil)))))
  have hrise : RisingLe wa.heap.size [⟨some ⟨g, 0, none⟩, n0, cap, none, 0, 0, 1⟩, ⟨some ⟨h, 0, none⟩, n1, caph, none, 0, 0, 2⟩, ⟨AX, mX, cX, none, 0, 0, 3⟩, ⟨AY, mY, cY, none, 0, 0, 4⟩, ⟨AV, mV, cV, none, 0, 0, 5⟩, ⟨AW, mW, cW, none, 0, 0, 6⟩] :=
    ⟨w1.heap.size, hs1, HTL.out, w2.heap.size, hs2, HUL.out, w3.heap.size, hs3, HX3.out.lies, w4.heap.size, hs4, HY4.out.lies, w5.heap.size, hs5, HV5.out.lies, w6.heap.size, hs6, hW6.lies, trivial⟩
  have hfit : Fit [⟨some ⟨g, 0, none⟩, n0, cap, none, 0, 0, 1⟩, ⟨some ⟨h, 0, none⟩, n1, caph, none, 0, 0, 2⟩, ⟨AX, mX, cX, none, 0, 0, 3⟩, ⟨AY, mY, cY, none, 0, 0, 4⟩, ⟨AV, mV, cV, none, 0, 0, 5⟩, ⟨AW, mW, cW, none, 0, 0, 6⟩] := by
    have := HMX.out
    have := HBX.out.2
    have := HMY.out
    have := HBY.out.2
    have := HMV.out
    have := HBV.out.2
    have := HNA.out
    refine .cons (by simp) ?_ (.cons (by simp) ?_ (.cons (by simp) ?_ (.cons (by simp) ?_ (.cons (by simp) ?_ (.cons (by simp) ?_ .nil))))) <;> (simp only; omega)
  have HROWS := Lib.hid hrows
  have HUN := Lib.hid hrise.unlike
  have HFIT := Lib.hid hfit
  have HG6 := Lib.hid hG6
  have HB6 := Lib.hid (Below.refl w6.heap.size w6)
  have HBW6 := Lib.hid (HBW.out.trans (h26.mono HBW.out.size))
  have hc0 : w6.cell? ⟨w.heap.size, 0, none⟩ = some (.int .u64 n) := hG6.cell 0
  have hc1 : w6.cell? ⟨w.heap.size, 1, none⟩ = some (.int .i64 k) := hG6.cell 1
  clear hmW hW6 h56 h26 h46 h36 hT6 hU6 hX6 hY6 hV6 hG6 hs3 hs4 hs5 hs6 hsa hs1 hs2 rX rY rV rW hsame hrows hrise hfit HX3 HY4 HV5 HT2 HU2 HTL HUL HMX HMY HMV HBX HBY HBV H23 H34 H45 H24 H25 HG2 HBW HB2 HSZ0 HNA HPUT HPUTL HPUTB
  go_wp2_with fail
  refine (HREF.out _ _ _ HRPUT.out _ HB6.out).mono ?_; rintro e w7 ⟨A7, c7, m7, rfl, hr7, h7⟩
  have HR7 := Lib.hid hr7
  have HB7 := Lib.hid h7
  clear hr7 h7 hc0 hc1
  go_wp2_with fail
  refine (HSX.out _ HB7.out A7 m7 c7 HR7.out).mono ?_; rintro e w8 ⟨rfl, h8⟩
  have hG8 := HG6.out.below h8 HG6.out.lt
  have hc2 : w8.cell? ⟨w.heap.size, 2, none⟩ = some (.int .u64 a) := hG8.cell 2
  have hc3 : w8.cell? ⟨w.heap.size, 3, none⟩ = some (.int .u64 b) := hG8.cell 3
  have hc4 : w8.cell? ⟨w.heap.size, 4, none⟩ = some (.int .u64 c) := hG8.cell 4
  have hc5 : w8.cell? ⟨w.heap.size, 5, none⟩ = some (.int .u64 d) := hG8.cell 5
  have HB8 := Lib.hid h8
  clear h8 hG8 HR7
  go_wp2_with fail
  refine (HREF.out _ _ _ HRPUTL.out _ HB8.out).mono ?_; rintro e w9 ⟨A9, c9, m9, rfl, hr9, h9⟩
  have HR9 := Lib.hid hr9
  have HB9 := Lib.hid h9
  clear hr9 h9 hc2 hc3 hc4 hc5
  go_wp2_with fail
  refine (HSY.out _ HB9.out A9 m9 c9 HR9.out).mono ?_; rintro e w10 ⟨rfl, h10⟩
  have HB10 := Lib.hid h10
  clear h10 HR9
  go_wp2_with fail
  refine (HREF.out _ _ _ HRPUTB.out _ HB10.out).mono ?_; rintro e w11 ⟨A11, c11, m11, rfl, hr11, h11⟩
  have HR11 := Lib.hid hr11
  have HB11 := Lib.hid h11
  clear hr11 h11
  go_wp2_with fail
  refine (HSV.out _ HB11.out A11 m11 c11 HR11.out).mono ?_; rintro e w12 ⟨rfl, h12⟩
  have HB12 := Lib.hid h12
  clear h12 HR11
  go_wp2_with fail
  refine (HSW.out _ HB12.out AV mV cV (HRV.out _ HB12.out)).mono ?_; rintro e w13 ⟨rfl, h13⟩
  have HB13 := Lib.hid h13
  clear h13
  go_wp2_with fail
  refine (HLF.out _ HLEFT.out _ HB13.out).mono ?_; rintro e w14 ⟨rfl, h14⟩
  have HB14 := Lib.hid h14
  clear h14
  go_wp2_with fail
  refine (HLF.out _ HLEFT2.out _ HB14.out).mono ?_; rintro e w15 ⟨rfl, h15⟩
  have hbw15 : Below w.heap.size w w15 := HBW6.out.trans (h15.mono HBW6.out.size)
  have hbb := book_new (base := w.heap.size) w15 hbw15.size
  obtain ⟨w16, hw16⟩ : ∃ w16, w16 = w15.alloc (.cells zBook.toArray 52) := ⟨_, rfl⟩
  obtain ⟨w17, hw17⟩ : ∃ w17, w16.setCells w15.heap.size 0 zBook = w17 := ⟨_, rfl⟩
  rw [← hw16, hw17] at hbb
  obtain ⟨hbk, hbel⟩ := hbb
  have HA16 : Hid (∀ (o : Oper), o.op = .alloc 52 → ∀ ev, (execOp ev o).run Tryz.prog w15 = .ok (.value (.pointer (some ⟨w15.heap.size, 0, none⟩))) w16) := Lib.hid (fun o ho ev => by rw [hw16]; exact exec_alloc_book w15 o ho ev)
  have HTH16 : Hid (w16.there w15.heap.size 0 zBook.toArray.size) := Lib.hid (by rw [hw16]; exact (Blk.new w15 52 zBook).there 0 _ (by simp))
  have HS16 : Hid ((Tryz.prog.info? 52).map (·.size) = some zBook.toArray.size) := Lib.hid (by kernel_rfl)
  have H116 : Hid (zBook.toArray.all (·.oneCell') = true) := Lib.hid (by kernel_rfl)
  have HW17 := Lib.hid hw17
  have HRW0 := Lib.hid ((HROWS.out.below h15).below hbel)
  have HBK0 := Lib.hid hbk
  have HBW0 := Lib.hid (hbw15.trans (hbel.mono hbw15.size))
  have HB15 : Hid (w.heap.size ≤ w15.heap.size) := Lib.hid hbw15.size
  generalize w15.heap.size = B at *
  clear hbk hbw15 hbel hw16 hw17 h15 HROWS HREF HLF HLEFT HLEFT2 HSX HSY HSV HSW HRV HRPUT HRPUTL HRPUTB HB6 HB7 HB8 HB9 HB10 HB11 HB12 HB13 HB14 HG6 HBW6
  go_wp2_with (first
    | (refine wpList_store_mid rfl 52 _ _ rfl B 0 zBook.toArray rfl rfl HTH16.out HS16.out H116.out ?_; rw [show zBook.toArray.toList = zBook from rfl, HW17.out])
    | (refine wpList_value (o := ⟨some 13, .alloc 52, _, _, _, _⟩) (v := .pointer (some ⟨B, 0, none⟩)) (w' := w16) rfl (HA16.out _ rfl _) ?_))
  refine (bytes_any w.heap.size B [] (some ⟨g, 0, none⟩) n0 cap w17 HBK0.out HBW0.out.size (by simp)).mono ?_
  rintro e v1 ⟨rfl, hbk, hk⟩
  have hbk' : BookAt w.heap.size v1 B [⟨some ⟨g, 0, none⟩, n0, cap, none, 0, 0, 1⟩] := hbk
  have HBW1 := Lib.hid (below_keeps HBW0.out hk (Nat.le_refl _) (fun i hi => hi.lo HB15.out HBW0.out.size))
  have HRW1 := Lib.hid (HRW0.out.keepBook HBK0.out hk)
  have HBK1 := Lib.hid hbk'
  clear hbk hbk' hk HRW0 HBK0 HBW0
  go_wp2_with fail
  refine (bytes_any w.heap.size B _ (some ⟨h, 0, none⟩) n1 caph v1 HBK1.out HBW1.out.size (by simp)).mono ?_
  rintro e v2 ⟨rfl, hbk, hk⟩
  have hbk' : BookAt w.heap.size v2 B [⟨some ⟨g, 0, none⟩, n0, cap, none, 0, 0, 1⟩, ⟨some ⟨h, 0, none⟩, n1, caph, none, 0, 0, 2⟩] := hbk
  have HBW2 := Lib.hid (below_keeps HBW1.out hk (Nat.le_refl _) (fun i hi => hi.lo HB15.out HBW1.out.size))
  have HRW2 := Lib.hid (HRW1.out.keepBook HBK1.out hk)
  have HBK2 := Lib.hid hbk'
  clear hbk hbk' hk HRW1 HBK1 HBW1
  go_wp2_with fail
  refine (bytes_any w.heap.size B _ (AX) mX cX v2 HBK2.out HBW2.out.size (by simp)).mono ?_
  rintro e v3 ⟨rfl, hbk, hk⟩
  have hbk' : BookAt w.heap.size v3 B [⟨some ⟨g, 0, none⟩, n0, cap, none, 0, 0, 1⟩, ⟨some ⟨h, 0, none⟩, n1, caph, none, 0, 0, 2⟩, ⟨AX, mX, cX, none, 0, 0, 3⟩] := hbk
  have HBW3 := Lib.hid (below_keeps HBW2.out hk (Nat.le_refl _) (fun i hi => hi.lo HB15.out HBW2.out.size))
  have HRW3 := Lib.hid (HRW2.out.keepBook HBK2.out hk)
  have HBK3 := Lib.hid hbk'
  clear hbk hbk' hk HRW2 HBK2 HBW2
  go_wp2_with fail
  refine (bytes_any w.heap.size B _ (AY) mY cY v3 HBK3.out HBW3.out.size (by simp)).mono ?_
  rintro e v4 ⟨rfl, hbk, hk⟩
  have hbk' : BookAt w.heap.size v4 B [⟨some ⟨g, 0, none⟩, n0, cap, none, 0, 0, 1⟩, ⟨some ⟨h, 0, none⟩, n1, caph, none, 0, 0, 2⟩, ⟨AX, mX, cX, none, 0, 0, 3⟩, ⟨AY, mY, cY, none, 0, 0, 4⟩] := hbk
  have HBW4 := Lib.hid (below_keeps HBW3.out hk (Nat.le_refl _) (fun i hi => hi.lo HB15.out HBW3.out.size))
  have HRW4 := Lib.hid (HRW3.out.keepBook HBK3.out hk)
  have HBK4 := Lib.hid hbk'
  clear hbk hbk' hk HRW3 HBK3 HBW3
  go_wp2_with fail
  refine (bytes_any w.heap.size B _ (AV) mV cV v4 HBK4.out HBW4.out.size (by simp)).mono ?_
  rintro e v5 ⟨rfl, hbk, hk⟩
  have hbk' : BookAt w.heap.size v5 B [⟨some ⟨g, 0, none⟩, n0, cap, none, 0, 0, 1⟩, ⟨some ⟨h, 0, none⟩, n1, caph, none, 0, 0, 2⟩, ⟨AX, mX, cX, none, 0, 0, 3⟩, ⟨AY, mY, cY, none, 0, 0, 4⟩, ⟨AV, mV, cV, none, 0, 0, 5⟩] := hbk
  have HBW5 := Lib.hid (below_keeps HBW4.out hk (Nat.le_refl _) (fun i hi => hi.lo HB15.out HBW4.out.size))
  have HRW5 := Lib.hid (HRW4.out.keepBook HBK4.out hk)
  have HBK5 := Lib.hid hbk'
  clear hbk hbk' hk HRW4 HBK4 HBW4
  go_wp2_with fail
  refine (bytes_any w.heap.size B _ (AW) mW cW v5 HBK5.out HBW5.out.size (by simp)).mono ?_
  rintro e v6 ⟨rfl, hbk, hk⟩
  have hbk' : BookAt w.heap.size v6 B [⟨some ⟨g, 0, none⟩, n0, cap, none, 0, 0, 1⟩, ⟨some ⟨h, 0, none⟩, n1, caph, none, 0, 0, 2⟩, ⟨AX, mX, cX, none, 0, 0, 3⟩, ⟨AY, mY, cY, none, 0, 0, 4⟩, ⟨AV, mV, cV, none, 0, 0, 5⟩, ⟨AW, mW, cW, none, 0, 0, 6⟩] := hbk
  have HBW6 := Lib.hid (below_keeps HBW5.out hk (Nat.le_refl _) (fun i hi => hi.lo HB15.out HBW5.out.size))
  have HRW6 := Lib.hid (HRW5.out.keepBook HBK5.out hk)
  have HBK6 := Lib.hid hbk'
  clear hbk hbk' hk HRW5 HBK5 HBW5
  have hap := apart_any w.heap.size B _ v6 HBK6.out HRW6.out ⟨HUN.out, fun i h hi => (HFIT.out i h hi).1, fun i h hi => (HFIT.out i h hi).2⟩ HBW6.out.size
  have HAP := Lib.hid hap
  clear hap
  go_wp2_with fail
  refine HAP.out.mono ?_; rintro e wz ⟨rfl, hkz⟩
  have HWZ := Lib.hid (below_keeps HBW6.out hkz (Nat.le_refl _) (fun i hi => hi))
  clear hkz
  go_wp2_with fail
  go_ret
  exact ⟨rfl, HWZ.out⟩
section
open Go.ChangeShapes Go.WideShapes
theorem given_parts (cs : List Value) (h : cs.length = 6) : (cs.drop 0).take 1 ++ ((cs.drop 1).take 1 ++ (cs.drop 2).take 4) = cs := by
  rcases cs with _ | ⟨a, _ | ⟨b, cs⟩⟩
  · simp at h
  · simp at h
  · simp only [List.drop_zero, List.take_succ_cons, List.take_zero, List.drop_succ_cons, List.cons_append, List.nil_append]
    rw [List.take_of_length_le (by simp at h; omega)]
set_option maxRecDepth 100000 in
theorem numsWritten_walk {H : Type} {enc : TypeId × Value → H} {base : Nat} {d2 : DataW H} {p2 : List MemPlace} (A0 : Option Addr) (n0 c0 : Nat) (x0 : List Int) (A1 : Option Addr) (n1 c1 : Nat) (x1 : List Int) (v2 : Value) (w : World)
    (r0 : Rd w .u8 A0 n0 x0) (l0 : n0 ≤ c0) (z0 : A0 = none → c0 = 0) (m0 : c0 ≤ 140737488351232) (q0 : 0 < c0 → ∃ b off, A0 = some ⟨b, off, none⟩)
    (r1 : Rd w .u8 A1 n1 x1) (l1 : n1 ≤ c1) (z1 : A1 = none → c1 = 0) (m1 : c1 ≤ 140737488351232) (q1 : 0 < c1 → ∃ b off, A1 = some ⟨b, off, none⟩)
    (o2 : Value.okWide Tryz.prog w .any base 57 v2) (k2 : DataW.Trod enc Tryz.prog w 0 (fun _ => true) true 57 v2 d2 p2) (y2 : (d2.weights Tryz.prog 57).all (· ≤ reachBytes) = true) :
    Calls Tryz.prog 4 #[.slice A0 n0 c0, .slice A1 n1 c1, v2] w fun e w' => e = .returned (.bool true) ∧ Below w.heap.size w w' := by
  obtain ⟨cs0, rfl, hs0⟩ := okWide_agg (.inl ⟨_, Tryz.underlying57⟩) o2
  obtain ⟨f0, hf0⟩ := k2
  obtain ⟨hl, m, hp⟩ := open_struct Tryz.underlying57 hf0
  obtain ⟨y0, hy0, L0⟩ := hp 0 _ rfl
  obtain ⟨y1, hy1, L1⟩ := hp 1 _ rfl
  obtain ⟨y3, hy3, L3⟩ := hp 2 _ rfl
  simp only at hy0 hy1 hy3
  obtain ⟨n, en, wn⟩ := cell_int Tryz.underlying25 hy0
  obtain ⟨k, ek, wk⟩ := cell_int Tryz.underlying3 hy1
  obtain ⟨tl, et, htl, htw⟩ := open_array_ints Tryz.underlying30 Tryz.underlying25 (by kernel_rfl) (by kernel_rfl) hy3
  obtain ⟨cs0⟩ := cs0
  simp only [Value.cells] at hl en ek et
  rw [show Tryz.prog.cellsOf 57 = 6 by kernel_rfl] at hl
  rw [show Tryz.prog.cellsOf 25 = 1 by kernel_rfl] at en
  rw [show Tryz.prog.cellsOf 3 = 1 by kernel_rfl] at ek
  rw [show Tryz.prog.cellsOf 30 = 4 by kernel_rfl] at et
  have e := given_parts cs0 hl
  rw [en, ek, et] at e
  rcases tl with _ | ⟨a, _ | ⟨b, _ | ⟨c, _ | ⟨d, _ | ⟨_, tl⟩⟩⟩⟩⟩
  · simp at htl
  · simp at htl
  · simp at htl
  · simp at htl
  · have hcs : cs0 = [.int .u64 n, .int .i64 k, .int .u64 a, .int .u64 b, .int .u64 c, .int .u64 d] := e.symm
    rw [hcs]
    by_cases hle : 1048576 < n0 + n1
    · exact written_beyond A0 n0 c0 A1 n1 c1 n k a b c d w r0.big r1.big hle
    · exact written_at A0 n0 c0 x0 A1 n1 c1 x1 n k a b c d w r0 l0 z0 r1 l1 z1 (by omega) (wf_bounds_u64 wn) (wf_bounds_u64 (htw a (by simp))) (wf_bounds_u64 (htw b (by simp))) (wf_bounds_u64 (htw c (by simp))) (wf_bounds_u64 (htw d (by simp)))
  · simp at htl
end
end Go.Proofs.YtigcpjjmafpjhaaGreatDoor
