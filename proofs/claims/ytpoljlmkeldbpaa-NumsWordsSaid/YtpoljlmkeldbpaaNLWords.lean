/- The law NumsWords: the walk. -/
import Derived.Test.YtpoljlmkeldbpaaNWords
namespace Go.Proofs.Ytpoljlmkeldbpaa
open Go.RowKit
set_option linter.unusedSimpArgs false
set_option linter.unusedVariables false
attribute [local go_sem ↓] Go.wp_at_zero Go.wp_at_succ
attribute [local go_sem] long_same

/-- The two boxes of the law's arguments. -/
structure Boxes (w0 : World) (B : Nat) (a b c d : Int) (v0 v1 : Value) (w : World) : Prop where
  num : Blk w B 29 [.int .u64 a, .int .u64 b, .int .u64 c, .int .u64 d]
  two : Blk w (B + 1) 30 [v0, v1]
  below : Below w0.heap.size w0 w
theorem Boxes.next {w0 w w' : World} {B : Nat} {a b c d : Int} {v0 v1 : Value} (h : Boxes w0 B a b c d v0 v1 w) (hB : Below w.heap.size w w') : Boxes w0 B a b c d v0 v1 w' :=
  ⟨h.num.below hB h.num.lt, h.two.below hB h.two.lt, h.below.trans (hB.mono h.below.size)⟩

theorem grown_nil {w w' : World} (hg : w.grownBy w' (Value.slice none 0 0).ownBlock) : Below w.heap.size w w' :=
  ⟨hg.os, hg.tape, hg.output, hg.size, fun i hi => hg.block i hi (by simp [Value.ownBlock])⟩
theorem grown_at {w0 w w' : World} {v : Value} (hg : w.grownBy w' v.ownBlock) (hat : v.ownBlock = none ∨ v.ownBlock = some w0.heap.size) (h0 : w0.heap.size ≤ w.heap.size) : Below w0.heap.size w w' :=
  ⟨hg.os, hg.tape, hg.output, hg.size, fun i hi => hg.block i (Nat.lt_of_lt_of_le hi h0) (fun e => by
    rcases hat with h | h
    · rw [h] at e; cases e
    · rw [h] at e; injection e with e; omega)⟩
theorem Boxes.next2 {w0 w1 w w' : World} {B : Nat} {a b c d : Int} {v0 v1 : Value} (h : Boxes w0 B a b c d v0 v1 w) (hB : Below w1.heap.size w w') (h1 : B + 1 < w1.heap.size) (h0 : w0.heap.size ≤ w1.heap.size) : Boxes w0 B a b c d v0 v1 w' :=
  ⟨h.num.below hB (by omega), h.two.below hB h1, h.below.trans (hB.mono h0)⟩
theorem drop_flat (l : List Int) : ∀ (i : Nat), (flat l 8).drop (8 * i) = flat (l.drop i) 8 := by
  induction l with
  | nil => intro i; simp [flat]
  | cons x l ih =>
    intro i
    cases i with
    | zero => rfl
    | succ i =>
      have h1 : flat (x :: l) 8 = be x 8 ++ flat l 8 := rfl
      rw [h1, show 8 * (i + 1) = (be x 8).length + 8 * i by rw [be_length]; omega, List.drop_append, List.drop_succ_cons]
      rw [List.drop_of_length_le (by omega), List.nil_append, show (be x 8).length + 8 * i - (be x 8).length = 8 * i by omega]
      exact ih i
theorem told_flat (l : List Int) (x1 : List Int) (i : Nat) (x : Int) (hx : l[i]? = some x) (h0 : 0 ≤ x) (h1 : x ≤ 18446744073709551615) : told (((flat l 8 ++ x1).drop (8 * i)).take 8) = x := by
  have hi : i < l.length := (List.getElem?_eq_some_iff.1 hx).1
  rw [List.drop_append_of_le_length (by rw [flat_length]; omega), drop_flat, List.drop_eq_getElem_cons hi]
  have hx' : l[i] = x := (List.getElem?_eq_some_iff.1 hx).2
  rw [hx']
  have h2 : flat (x :: l.drop (i + 1)) 8 = be x 8 ++ flat (l.drop (i + 1)) 8 := rfl
  rw [h2, List.append_assoc, List.take_append_of_le_length (by rw [be_length]; omega), List.take_of_length_le (by rw [be_length]; omega)]
  exact told_be 8 x h0 (by simp [pow256]; omega)

set_option maxRecDepth 100000 in
set_option maxHeartbeats 2000000 in
theorem words_at (a b c d : Int) (A0 : Option Addr) (n0 c0 : Nat) (x0 : List Int) (A1 : Option Addr) (n1 c1 : Nat) (x1 : List Int) (w : World) (s0 : Sl w .u8 A0 n0 c0 x0) (s1 : Sl w .u8 A1 n1 c1 x1)
    (ha : 0 ≤ a ∧ a ≤ 18446744073709551615) (hb : 0 ≤ b ∧ b ≤ 18446744073709551615) (hc : 0 ≤ c ∧ c ≤ 18446744073709551615) (hd : 0 ≤ d ∧ d ≤ 18446744073709551615) (hle : n0 + n1 ≤ 1048576) :
    Calls Try.prog 4 #[.agg #[.int .u64 a, .int .u64 b, .int .u64 c, .int .u64 d], .agg #[.slice A0 n0 c0, .slice A1 n1 c1]] w fun e w' => e = .returned (.bool true) ∧ Below w.heap.size w w' := by
  have hbe : ∀ W : World, Calls Try.prog 10 #[.slice (some ⟨W.heap.size, 0, none⟩) 2 2] (W.alloc (.cells #[.int .i64 n0, .int .i64 n1] 3)) fun e w' => e = .returned (.bool false) ∧ W.alloc (.cells #[.int .i64 n0, .int .i64 n1] 3) = w' := fun W => by
    have hk := Blk.new W 3 [.int .i64 n0, .int .i64 n1]
    have := beyond2_any W.heap.size n0 n1 2 _ (by omega) (by omega) (hk.cell 0) (hk.cell 1)
    rwa [decide_eq_false (by omega)] at this
  have hbox : Boxes w w.heap.size a b c d (.slice A0 n0 c0) (.slice A1 n1 c1) ((w.alloc (.cells #[.int .u64 a, .int .u64 b, .int .u64 c, .int .u64 d] 29)).alloc (.cells #[.slice A0 n0 c0, .slice A1 n1 c1] 30)) := by
    have k1 := Blk.new w 29 [.int .u64 a, .int .u64 b, .int .u64 c, .int .u64 d]
    have k2 := Blk.new (w.alloc (.cells #[.int .u64 a, .int .u64 b, .int .u64 c, .int .u64 d] 29)) 30 [.slice A0 n0 c0, .slice A1 n1 c1]
    rw [World.size_alloc] at k2
    exact ⟨k1.alloc _, k2, ((Below.refl _ _).alloc (Nat.le_refl _) _).alloc (by simp) _⟩
  have HB := Lib.hid hbe
  have HBOX := Lib.hid hbox
  have HS0 := Lib.hid s0
  have HS1 := Lib.hid s1
  have hbig := s0.rd.big
  have hbig1 := s1.rd.big
  clear hbe hbox s0 s1
  go_enter Try.func4, Try.ntmps4
  go_wp2_with fail
  have hbx := HBOX.out
  clear HBOX
  generalize (w.alloc (.cells #[.int .u64 a, .int .u64 b, .int .u64 c, .int .u64 d] 29)).alloc (.cells #[.slice A0 n0 c0, .slice A1 n1 c1] 30) = w0 at *
  refine (alive_true w0).mono ?_
  rintro e w1 ⟨rfl, hB1⟩
  have hb1 := hbx.next hB1
  clear hbx hB1
  have t0 := hb1.two.cell 0
  have t1 := hb1.two.cell 1
  simp only [List.getElem?_cons_zero, List.getElem?_cons_succ] at t0 t1
  go_wp2_with fail
  refine (HB.out w1).mono ?_
  rintro e w2 ⟨rfl, rfl⟩
  have hb2 := hb1.next (new_below w1 (.cells #[.int .i64 n0, .int .i64 n1] 3))
  generalize w1.alloc (.cells #[.int .i64 n0, .int .i64 n1] 3) = w2 at *
  clear t0 t1 hb1
  have t0 := hb2.two.cell 0
  have t1 := hb2.two.cell 1
  have z0 := hb2.num.cell 0
  have z1 := hb2.num.cell 1
  have z2 := hb2.num.cell 2
  have z3 := hb2.num.cell 3
  simp only [List.getElem?_cons_zero, List.getElem?_cons_succ] at t0 t1 z0 z1 z2 z3
  go_wp2_with fail
  have hpl := putlong_any A0 n0 c0 x0 a b c d w2 (HS0.out.rd.below hb2.below) HS0.out.le ha hb hc hd
  unfold longVal at hpl
  refine hpl.mono ?_
  rintro e w3 ⟨g3, hg3, rfl, hk3, hB3⟩
  have hlen3 : (x0 ++ flat [d, c, b, a] 8).length = n0 + 32 := by rw [List.length_append, HS0.out.rd.len, flat_length]; rfl
  rw [hlen3]
  have HLEN3 := Lib.hid hlen3
  have hb3 := hb2.next hB3
  clear t0 t1 z0 z1 z2 z3 hpl hb2 hlen3 hB3
  have t0 := hb3.two.cell 0
  simp only [List.getElem?_cons_zero] at t0
  go_wp2_with fail
  go_loopw [6, 7] (fun one i wr => ∃ k : Nat, k ≤ 4 ∧ i = .int .i64 (3 - (k : Int)) ∧ Boxes w w.heap.size a b c d (.slice A0 n0 c0) (.slice A1 n1 c1) wr ∧ Blk wr g3 5 ((x0 ++ flat [d, c, b, a] 8).map (Value.int .u8)) ∧
      ∃ A n cc, one = .slice A n cc ∧ n ≤ cc ∧ Rd wr .u8 A n (x0 ++ flat ([d, c, b, a].take k) 8)) (fun _ i _ => (intOf i + 1).toNat)
  case atStart => exact ⟨0, by omega, rfl, hb3, hk3, A0, n0, c0, rfl, HS0.out.le, by simpa [flat] using HS0.out.rd.below hb3.below⟩
  case round =>
    rename_i one i wr
    obtain ⟨k, hk, rfl, hbx, hk3, A, n, cc, rfl, hcc, hr⟩ := hrel
    have hrl := hr.len
    by_cases hk4 : k < 4
    · obtain ⟨x, hx, hx0, hx1⟩ : ∃ x, [d, c, b, a][k]? = some x ∧ 0 ≤ x ∧ x ≤ 18446744073709551615 := by
        rcases k with _ | _ | _ | _ | k
        · exact ⟨d, rfl, hd⟩
        · exact ⟨c, rfl, hc⟩
        · exact ⟨b, rfl, hb⟩
        · exact ⟨a, rfl, ha⟩
        · omega
      have hcell : wr.cell? ⟨w.heap.size, 3 - k, none⟩ = some (.int .u64 x) := by
        rw [hbx.num.cell]
        rcases k with _ | _ | _ | _ | k
        · injection hx with hx; subst hx; rfl
        · injection hx with hx; subst hx; rfl
        · injection hx with hx; subst hx; rfl
        · injection hx with hx; subst hx; rfl
        · omega
      have htk : x0 ++ flat ([d, c, b, a].take (k + 1)) 8 = (x0 ++ flat ([d, c, b, a].take k) 8) ++ be x 8 := by
        rw [List.append_assoc]
        congr 1
        rw [List.take_add_one, hx]
        simp [flat]
      have hput := put_any A n cc _ x 8 wr hr hcc hx0 hx1
      rw [show putMany 8 = 8 by decide, ← htk] at hput
      have hlen : (x0 ++ flat ([d, c, b, a].take (k + 1)) 8).length = n + 8 := by rw [htk, List.length_append, hrl, be_length]
      have hby : ∀ y ∈ x0 ++ flat ([d, c, b, a].take (k + 1)) 8, 0 ≤ y ∧ y ≤ 255 := by
        rw [htk]
        intro y hy
        rcases List.mem_append.1 hy with h | h
        · exact rd_bytes hr y h
        · exact be_byte 8 _ y h
      have hnl : n ≤ 4000000 := by
        rw [← hrl, List.length_append, HS0.out.rd.len, flat_length, List.length_take]
        have h4 : min k [d, c, b, a].length ≤ 4 := Nat.min_le_right _ _
        omega
      have HP := Lib.hid hput
      have HL := Lib.hid hlen
      have HBY := Lib.hid hby
      have i0 : (0 : Int) ≤ 3 - (k : Int) := by omega
      have i1 : 3 - (k : Int) < 4 := by omega
      have i2 : (3 - (k : Int)).toNat = 3 - k := by omega
      clear hx htk hput hlen hby hr hrl
      go_wp2_with fail
      refine HP.out.mono ?_
      rintro e w5 ⟨g5, hg5, rfl, hk5, hB5⟩
      rw [HL.out]
      go_wp2_with fail
      go_roundw
      case rel => exact ⟨k + 1, by omega, congrArg _ (by omega), hbx.next hB5, hk3.below hB5 hk3.lt, _, _, _, rfl, Nat.le_refl _, rd_of_blk hk5 HBY.out HL.out (by omega)⟩
      case measure => simp [intOf]; omega
    · obtain rfl : k = 4 := by omega
      rw [List.take_of_length_le (by simp)] at hr
      have hlen3 : (x0 ++ flat [d, c, b, a] 8).length = n0 + 32 := HLEN3.out
      have hn : n = n0 + 32 := by rw [← hr.len, hlen3]
      subst hn
      have hby : ∀ y ∈ x0 ++ flat [d, c, b, a] 8, 0 ≤ y ∧ y ≤ 255 := rd_bytes hr
      have hr3 := rd_of_blk hk3 hby hlen3 (by omega)
      have hsame := same_any (some ⟨g3, 0, none⟩) (n0 + 32) (n0 + 32) _ A (n0 + 32) cc _ wr hr3 hr
      rw [decide_eq_true rfl] at hsame
      have HSM := Lib.hid hsame
      have HR3 := Lib.hid hr3
      have HBY := Lib.hid hby
      clear hsame hr3 hby hlen3 hr
      go_wp2_with fail
      refine HSM.out.mono ?_
      rintro e w6 ⟨rfl, q6, rfl⟩
      have hb6 : Boxes w w.heap.size a b c d (.slice A0 n0 c0) (.slice A1 n1 c1) (wr.drewN q6) := ⟨hbx.num, hbx.two, below_drawn hbx.below ⟨q6, rfl⟩⟩
      have hk6 : Blk (wr.drewN q6) g3 5 ((x0 ++ flat [d, c, b, a] 8).map (Value.int .u8)) := hk3
      generalize wr.drewN q6 = w6 at *
      clear HSM hbx hk3 HR3
      have t0 := hb6.two.cell 0
      have t1 := hb6.two.cell 1
      simp only [List.getElem?_cons_zero, List.getElem?_cons_succ] at t0 t1
      have hrq : Rd w6.drew .u8 (some ⟨g3, n0, none⟩) 32 (flat [d, c, b, a] 8) := by
        have hall := rd_of_blk (w := w6.drew) hk6 HBY.out HLEN3.out (by omega)
        have := hall.sub n0 32 (by omega)
        rw [Nat.zero_add] at this
        rw [List.drop_append_of_le_length (by rw [HS0.out.rd.len]; omega), List.drop_of_length_le (by rw [HS0.out.rd.len]; omega), List.nil_append, List.take_of_length_le (by rw [flat_length]; simp)] at this
        exact this
      have hbq : Boxes w w.heap.size a b c d (.slice A0 n0 c0) (.slice A1 n1 c1) w6.drew := ⟨hb6.num, hb6.two, below_drawn hb6.below ⟨1, rfl⟩⟩
      have hlt2 : w.heap.size + 1 < w6.drew.heap.size := hb6.two.lt
      have HRQ := Lib.hid hrq
      have HBQ := Lib.hid hbq
      have HLT := Lib.hid hlt2
      have j0 : (n0 : Int) ≤ (n0 : Int) + 32 := by omega
      clear hrq hbq hk6 hb6
      go_wp2_with fail
      go_region_held3 (fun w' => w'.cell? ⟨w.heap.size + 1, 0, none⟩ = some (.slice A0 n0 c0) ∧ w'.cell? ⟨w.heap.size + 1, 1, none⟩ = some (.slice A1 n1 c1))
        (((try dsimp only); refine ⟨?_, ?_⟩ <;> (first | assumption | (go_keep; done))))
        (first
          | (refine step_append_bytes w.heap.size rfl _ _ rfl (.slice none 0 0) 0 [] (by simp [Act.eval, Act.put]) (some ⟨g3, n0, none⟩) 32 32 _ (by simp [Act.eval, Act.put]) HRQ.out (by simp) (own_nil _ _ _ _) HBQ.out.below.size (by omega) ?_
             intro v7 w7 ho7 hg7 hat7
             rw [Nat.zero_add, List.nil_append] at ho7
             have hb7 := HBQ.out.next (grown_nil hg7)
             have t07 := hb7.two.cell 0
             have t17 := hb7.two.cell 1
             simp only [List.getElem?_cons_zero, List.getElem?_cons_succ] at t07 t17
             have HR17 := Lib.hid (HS1.out.rd.below hb7.below)
             have HB7 := Lib.hid hb7
             have HG7 := Lib.hid (grown_nil hg7)
             have HAT7 := Lib.hid hat7
             clear hb7 hg7 hat7)
          | (refine step_append_bytes w.heap.size rfl _ _ rfl v7 32 _ (by simp [Act.eval, Act.put]) A1 n1 c1 x1 (by simp [Act.eval, Act.put]) HR17.out HS1.out.nil ho7.out HB7.out.below.size (by omega) ?_
             intro v8 w8 ho8 hg8 hat8
             have hb8 := HB7.out.next2 (grown_at hg8 HAT7.out HG7.out.size) HLT.out (Nat.le_trans (by omega) (Nat.le_of_lt HLT.out))
             have t08 := hb8.two.cell 0
             have t18 := hb8.two.cell 1
             simp only [List.getElem?_cons_zero, List.getElem?_cons_succ] at t08 t18
             have HB8 := Lib.hid hb8
             clear hb8 hg8 hat8))
      obtain ⟨g8, c8, rfl, hc8, hgb8, hgl8⟩ := own_some ho8.out (by omega)
      have hby8 : ∀ y ∈ flat [d, c, b, a] 8 ++ x1, 0 ≤ y ∧ y ≤ 255 := by
        intro y hy
        rcases List.mem_append.1 hy with h | h
        · exact HBY.out y (List.mem_append.2 (.inr h))
        · exact rd_bytes HS1.out.rd y h
      have hr8 := rd_own ho8.out hby8 (by omega)
      have hgl := getlong_any (some ⟨g8, 0, none⟩) (32 + n1) c8 _ w8 hr8 hc8
      have hlg : longGot (flat [d, c, b, a] 8 ++ x1) (32 + n1) = [a, b, c, d] := by
        unfold longGot
        rw [if_neg (by omega), told_flat _ _ 3 a rfl ha.1 ha.2, told_flat _ _ 2 b rfl hb.1 hb.2, told_flat _ _ 1 c rfl hc.1 hc.2, told_flat _ _ 0 d rfl hd.1 hd.2]
      have hle8 : longE (32 + n1) = 0 := by unfold longE; rw [if_neg (by omega)]
      rw [hlg, hle8] at hgl
      have HGL := Lib.hid hgl
      have HR8 := Lib.hid hr8
      have hcm8 : c8 ≤ 9223372036854775807 := by
        obtain ⟨_, A', c', e', _, hm', _⟩ := own_ints ho8.out
        injection e' with _ _ e'
        subst e'
        unfold maxLen at hm'
        exact hm'
      clear hby8 hr8 hgl hlg hle8 ho8 ho7
      go_wp2_with fail
      refine HGL.out.mono ?_
      rintro e w9 ⟨rfl, hB9⟩
      unfold longOf
      simp only [List.map_cons, List.map_nil]
      have hb9 := HB8.out.next hB9
      have hr9 := HR8.out.below hB9
      clear HR8 HB8 hB9
      go_wp2_with (refine wpList_value (o := ⟨some 9, .alloc 29, _, _, _, _⟩) (v := .pointer (some ⟨w9.heap.size, 0, none⟩)) (w' := w9.alloc (.cells ((List.replicate 4 (0 : Int)).map (Value.int .u64)).toArray 29)) rfl (by kernel_rfl) ?_)
      have hn9 := Blk.new w9 29 [.int .u64 a, .int .u64 b, .int .u64 c, .int .u64 d]
      have hb10 := hb9.next (new_below w9 (.cells #[.int .u64 a, .int .u64 b, .int .u64 c, .int .u64 d] 29))
      have hr10 := hr9.below (new_below w9 (.cells #[.int .u64 a, .int .u64 b, .int .u64 c, .int .u64 d] 29))
      clear hb9 hr9
      go_loopw [11] (fun i wr => ∃ k : Nat, k ≤ 4 ∧ i = .int .i64 k ∧ Boxes w w.heap.size a b c d (.slice A0 n0 c0) (.slice A1 n1 c1) wr ∧ Rd wr .u8 (some ⟨g8, 0, none⟩) (32 + n1) (flat [d, c, b, a] 8 ++ x1) ∧ Blk wr w9.heap.size 29 [.int .u64 a, .int .u64 b, .int .u64 c, .int .u64 d]) (fun i _ => 4 - (intOf i).toNat)
      case atStart => exact ⟨0, by omega, rfl, hb10, hr10, hn9⟩
      case round =>
        obtain ⟨k, hk, rfl, hbx, hr, hn⟩ := hrel
        by_cases hk4 : k < 4
        · obtain ⟨x, hx, hx0, hx1⟩ : ∃ x, [d, c, b, a][k]? = some x ∧ 0 ≤ x ∧ x ≤ 18446744073709551615 := by
            rcases k with _ | _ | _ | _ | k
            · exact ⟨d, rfl, hd⟩
            · exact ⟨c, rfl, hc⟩
            · exact ⟨b, rfl, hb⟩
            · exact ⟨a, rfl, ha⟩
            · omega
          have hcellAt : ∀ W, Boxes w w.heap.size a b c d (.slice A0 n0 c0) (.slice A1 n1 c1) W → W.cell? ⟨w.heap.size, 3 - k, none⟩ = some (.int .u64 x) := by
            intro W hW
            rw [hW.num.cell]
            rcases k with _ | _ | _ | _ | k
            · injection hx with hx; subst hx; rfl
            · injection hx with hx; subst hx; rfl
            · injection hx with hx; subst hx; rfl
            · injection hx with hx; subst hx; rfl
            · omega
          have hsub := hr.sub (8 * k) (32 + n1 - 8 * k) (by omega)
          have htake : ((flat [d, c, b, a] 8 ++ x1).drop (8 * k)).take (32 + n1 - 8 * k) = (flat [d, c, b, a] 8 ++ x1).drop (8 * k) := List.take_of_length_le (by rw [List.length_drop, hr.len]; exact Nat.le_refl _)
          rw [htake, Nat.zero_add] at hsub
          have hgt := get_any (some ⟨g8, 8 * k, none⟩) (32 + n1 - 8 * k) (c8 - 8 * k) _ 8 _ hsub (by omega)
          have y1 : getE (32 + n1 - 8 * k) 8 = 0 := by unfold getE; rw [if_neg (by omega), if_neg (by omega)]
          have y2 : getN ((flat [d, c, b, a] 8 ++ x1).drop (8 * k)) (32 + n1 - 8 * k) 8 = x := by
            unfold getN
            rw [y1, if_pos rfl]
            exact told_flat _ _ k x hx hx0 hx1
          rw [y1, y2] at hgt
          have HGT := Lib.hid hgt
          have HCA := Lib.hid hcellAt
          have HRR := Lib.hid hr
          obtain ⟨f, hf⟩ : ∃ f, 8 * k = f := ⟨_, rfl⟩
          have hfi : 8 * (k : Int) = (f : Int) := by omega
          have hf1 : f ≤ 24 := by omega
          rw [hf] at HGT
          have i1 : (3 : Int) - (k : Int) < 4 := by omega
          have i0 : (0 : Int) ≤ 3 - (k : Int) := by omega
          have i2 : ((3 : Int) - (k : Int)).toNat = 3 - k := by omega
          have i3 : ¬ c8 = f := by omega
          clear hx hcellAt hsub htake hgt y1 y2 hr hf
          go_wp2_with fail
          refine HGT.out.mono ?_
          rintro e wa ⟨rfl, hBa⟩
          have hbxa := hbx.next hBa
          have hza := HCA.out wa hbxa
          have hra := HRR.out.below hBa
          have hna := hn.below hBa hn.lt
          clear hbx hBa hn HCA HRR HGT
          go_wp2_with fail
          go_roundw
          case rel => exact ⟨k + 1, by omega, by go_num, hbxa, hra, hna⟩
          case measure => simp [intOf]; omega
        · obtain rfl : k = 4 := by omega
          have z0 := hbx.num.cell 0
          have z1 := hbx.num.cell 1
          have z2 := hbx.num.cell 2
          have z3 := hbx.num.cell 3
          have y0 := hn.cell 0
          have y1 := hn.cell 1
          have y2 := hn.cell 2
          have y3 := hn.cell 3
          simp only [List.getElem?_cons_zero, List.getElem?_cons_succ] at z0 z1 z2 z3 y0 y1 y2 y3
          go_wp2_with fail
          go_ret
          exact ⟨rfl, hbx.below⟩

set_option maxRecDepth 100000 in
set_option maxHeartbeats 2000000 in
theorem words_beyond (a b c d : Int) (A0 : Option Addr) (n0 c0 : Nat) (A1 : Option Addr) (n1 c1 : Nat) (w : World) (h0 : n0 ≤ 140737488351232) (h1 : n1 ≤ 140737488351232) (hle : 1048576 < n0 + n1) :
    Calls Try.prog 4 #[.agg #[.int .u64 a, .int .u64 b, .int .u64 c, .int .u64 d], .agg #[.slice A0 n0 c0, .slice A1 n1 c1]] w fun e w' => e = .returned (.bool true) ∧ Below w.heap.size w w' := by
  have hbe : ∀ W : World, Calls Try.prog 10 #[.slice (some ⟨W.heap.size, 0, none⟩) 2 2] (W.alloc (.cells #[.int .i64 n0, .int .i64 n1] 3)) fun e w' => e = .returned (.bool true) ∧ W.alloc (.cells #[.int .i64 n0, .int .i64 n1] 3) = w' := fun W => by
    have hk := Blk.new W 3 [.int .i64 n0, .int .i64 n1]
    have := beyond2_any W.heap.size n0 n1 2 _ (by omega) (by omega) (hk.cell 0) (hk.cell 1)
    rwa [decide_eq_true (by omega)] at this
  have hbox : Boxes w w.heap.size a b c d (.slice A0 n0 c0) (.slice A1 n1 c1) ((w.alloc (.cells #[.int .u64 a, .int .u64 b, .int .u64 c, .int .u64 d] 29)).alloc (.cells #[.slice A0 n0 c0, .slice A1 n1 c1] 30)) := by
    have k1 := Blk.new w 29 [.int .u64 a, .int .u64 b, .int .u64 c, .int .u64 d]
    have k2 := Blk.new (w.alloc (.cells #[.int .u64 a, .int .u64 b, .int .u64 c, .int .u64 d] 29)) 30 [.slice A0 n0 c0, .slice A1 n1 c1]
    rw [World.size_alloc] at k2
    exact ⟨k1.alloc _, k2, ((Below.refl _ _).alloc (Nat.le_refl _) _).alloc (by simp) _⟩
  have HB := Lib.hid hbe
  have HBOX := Lib.hid hbox
  clear hbe hbox
  go_enter Try.func4, Try.ntmps4
  go_wp2_with fail
  have hbx := HBOX.out
  clear HBOX
  generalize (w.alloc (.cells #[.int .u64 a, .int .u64 b, .int .u64 c, .int .u64 d] 29)).alloc (.cells #[.slice A0 n0 c0, .slice A1 n1 c1] 30) = w0 at *
  refine (alive_true w0).mono ?_
  rintro e w1 ⟨rfl, hB1⟩
  have hb1 := hbx.next hB1
  clear hbx hB1
  have t0 := hb1.two.cell 0
  have t1 := hb1.two.cell 1
  simp only [List.getElem?_cons_zero, List.getElem?_cons_succ] at t0 t1
  go_wp2_with fail
  refine (HB.out w1).mono ?_
  rintro e w2 ⟨rfl, rfl⟩
  have hb2 := hb1.next (new_below w1 (.cells #[.int .i64 n0, .int .i64 n1] 3))
  generalize w1.alloc (.cells #[.int .i64 n0, .int .i64 n1] 3) = w2 at *
  go_wp2_with fail
  refine (alive_true _).mono ?_
  rintro e w3 ⟨rfl, hB3⟩
  go_wp2_with fail
  go_ret
  exact ⟨rfl, (hb2.next hB3).below⟩

theorem numsWords_walk {H : Type} {enc : TypeId × Value → H} {base : Nat} {d0 d1 : DataW H} {p0 p1 : List MemPlace} (v0 v1 : Value) (w : World)
    (o0 : Value.okWide Try.prog w .any base 29 v0) (k0 : DataW.Trod enc Try.prog w 0 (fun _ => true) true 29 v0 d0 p0) (z0 : (d0.weights Try.prog 29).all (· ≤ reachBytes) = true)
    (o1 : Value.okWide Try.prog w .any base 30 v1) (k1 : DataW.Trod enc Try.prog w 0 (fun _ => true) true 30 v1 d1 p1) (z1 : (d1.weights Try.prog 30).all (· ≤ reachBytes) = true) :
    Calls Try.prog 4 #[v0, v1] w fun e w' => e = .returned (.bool true) ∧ Below w.heap.size w w' := by
  obtain ⟨cs0, rfl, hs0⟩ := okWide_agg (.inr ⟨_, _, Try.underlying29⟩) o0
  obtain ⟨cs1, rfl, hs1⟩ := okWide_agg (.inr ⟨_, _, Try.underlying30⟩) o1
  obtain ⟨f0, hf0⟩ := k0
  obtain ⟨f1, hf1⟩ := k1
  obtain ⟨l, hl, hll, hlw⟩ := open_array_ints Try.underlying29 Try.underlying22 (by kernel_rfl) (by kernel_rfl) hf0
  obtain ⟨hl1, m, hp⟩ := open_array Try.underlying30 hf1
  rw [show Try.prog.cellsOf 23 = 1 by kernel_rfl] at hp
  rw [show Try.prog.cellsOf 30 = 2 by kernel_rfl] at hl1
  obtain ⟨y0, hy0, hL0⟩ := hp 0 (by omega)
  obtain ⟨y1, hy1, hL1⟩ := hp 1 (by omega)
  obtain ⟨A0, n0, c0, x0, e0, s0⟩ := open_sl Try.underlying23 Try.underlying5 (by kernel_rfl) (by rw [show Try.prog.bytesOf 5 = 1 from by kernel_rfl]; omega) hy0 (hL0 z1)
  obtain ⟨A1, n1, c1, x1, e1, s1⟩ := open_sl Try.underlying23 Try.underlying5 (by kernel_rfl) (by rw [show Try.prog.bytesOf 5 = 1 from by kernel_rfl]; omega) hy1 (hL1 z1)
  have g0 := drop_one e0
  have g1 := drop_one e1
  obtain ⟨cs0⟩ := cs0
  obtain ⟨cs1⟩ := cs1
  simp only [Value.cells] at hl g0 g1 hl1
  subst hl
  rcases cs1 with _ | ⟨u0, _ | ⟨u1, _ | ⟨u2, cs1⟩⟩⟩
  · simp at hl1
  · simp at hl1
  · simp at g0 g1
    subst g0 g1
    rcases l with _ | ⟨a, _ | ⟨b, _ | ⟨c, _ | ⟨d, _ | ⟨q, l⟩⟩⟩⟩⟩
    · simp at hll
    · simp at hll
    · simp at hll
    · simp at hll
    · by_cases hle : 1048576 < n0 + n1
      · exact words_beyond a b c d A0 n0 c0 A1 n1 c1 w s0.rd.big s1.rd.big hle
      · exact words_at a b c d A0 n0 c0 x0 A1 n1 c1 x1 w s0 s1 (wf_bounds_u64 (hlw a (by simp))) (wf_bounds_u64 (hlw b (by simp))) (wf_bounds_u64 (hlw c (by simp))) (wf_bounds_u64 (hlw d (by simp))) (by omega)
    · simp at hll
  · simp at hl1
end Go.Proofs.Ytpoljlmkeldbpaa
