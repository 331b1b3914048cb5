/- The law PacketsBack: the walk. -/
import Derived.Test.YtfbkapaopnhbbaaKLive
import Derived.Test.YtfbkapaopnhbbaaKSamePk
import Derived.Test.YtfbkapaopnhbbaaKTwin
import Derived.Test.YtfbkapaopnhbbaaOpen
import Derived.Test.YtfbkapaopnhbbaaKLAgain
import Derived.Test.YtfbkapaopnhbbaaKRowOf
namespace Go.Proofs.Ytfbkapaopnhbbaa
open Go.RowKit
set_option linter.unusedSimpArgs false
set_option linter.unusedVariables false

theorem pkE_zero {kind : Int} {ps : List Piece} (h : pkE kind ps = 0) (hk : ∀ p ∈ ps, okPiece p) : (1 ≤ kind ∧ kind ≤ 8) ∧ putE ps = 0 ∧ 40 + (pieces ps).length ≤ 2048 := by
  unfold pkE at h
  split at h
  · rename_i h1
    split at h
    · rename_i h2
      split at h
      · cases h
      · exact ⟨h1, h2, by omega⟩
    · rename_i h2; exact absurd h h2
  · cases h
/-- Get of what Put makes. -/
theorem get_of_put {kind : Int} {f t : List Int} {ps : List Piece} (h : pkE kind ps = 0) (hk : ∀ p ∈ ps, okPiece p) (hf : f.length = 16) (ht : t.length = 16) (hfb : isB f) (htb : isB t) :
    pkGetE (pkB kind f t (pieces ps)) = 0 ∧ okB (pkB kind f t (pieces ps)) = true ∧ (pkB kind f t (pieces ps))[1]?.getD 0 = kind ∧ ((pkB kind f t (pieces ps)).drop 8).take 16 = f ∧ ((pkB kind f t (pieces ps)).drop 24).take 16 = t ∧ (paGet ((pkB kind f t (pieces ps)).drop 40)).2 = ps ∧ isB (pkB kind f t (pieces ps)) ∧ 40 ≤ (pkB kind f t (pieces ps)).length ∧ (pkB kind f t (pieces ps)).length ≤ 2048 := by
  obtain ⟨h1, h2, h3⟩ := pkE_zero h hk
  have hpb : isB (pieces ps) := pieces_byte _ hk
  have hok := pkB_ok h1 hfb htb hpb hf ht (by omega)
  obtain ⟨p1, p2, p3, p4⟩ := pkB_parts (kind := kind) (l := pieces ps) hf ht
  have hl := pkB_length (kind := kind) (l := pieces ps) hf ht
  have hg := paGet_put hk h2
  refine ⟨?_, hok, p1, p2, p3, by rw [p4, hg], pkB_byte h1 hfb htb hpb, by omega, by omega⟩
  unfold pkGetE
  rw [if_neg (by omega), if_neg (by omega), if_neg (by rw [hok]; simp), p4, hg]
theorem bad_bit {b : List Int} (hb : isB b) (h40 : 40 ≤ b.length) (hm : b.length ≤ 2048) (hok : okB b = true) {i : Nat} (hi : i < b.length) {y : Int} (hy : 0 ≤ y ∧ y ≤ 255) (hne : y ≠ b[i]?.getD 0) : pkGetE (b.set i y) = 4 := by
  unfold pkGetE
  rw [List.length_set, if_neg (by omega), if_neg (by omega), if_pos (okB_change hb (by omega) hok hi hy hne)]
theorem bad_less {b : List Int} (h40 : 40 ≤ b.length) (hm : b.length ≤ 2048) (hok : okB b = true) : pkGetE (b.take (b.length - 1)) = 4 ∨ pkGetE (b.take (b.length - 1)) = 5 := by
  unfold pkGetE
  rw [List.length_take, if_neg (by omega)]
  by_cases h : min (b.length - 1) b.length < 40
  · rw [if_pos h]; exact .inr rfl
  · rw [if_neg h, if_pos (okB_less hok _ (by omega) (by omega))]; exact .inl rfl
theorem bad_more {b : List Int} (h40 : 40 ≤ b.length) (hm : b.length ≤ 2048) (hok : okB b = true) : pkGetE (b ++ [0]) = 4 ∨ pkGetE (b ++ [0]) = 3 := by
  unfold pkGetE
  rw [List.length_append]
  by_cases h : 2048 < b.length + [(0 : Int)].length
  · rw [if_pos h]; exact .inr rfl
  · rw [if_neg h, if_neg (by omega), if_pos (okB_more (by omega) hok _ (by simp))]; exact .inl rfl
theorem flip_ne : ∀ x : Fin 256, ∀ s : Fin 8, (x.val ^^^ 2 ^ s.val) ≠ x.val ∧ (x.val ^^^ 2 ^ s.val) < 256 := by decide +kernel
theorem pow_flip : ∀ s : Fin 8, ((2 : Int) ^ s.val % 256) = ((2 ^ s.val : Nat) : Int) ∧ 2 ^ s.val < 256 := by decide +kernel
theorem flip_int (x : Int) (s : Nat) (h0 : 0 ≤ x) (h1 : x ≤ 255) (hs : s < 8) : bits .xor .u8 x (2 ^ s % 256) ≠ x ∧ 0 ≤ bits .xor .u8 x (2 ^ s % 256) ∧ bits .xor .u8 x (2 ^ s % 256) ≤ 255 := by
  obtain ⟨m, rfl⟩ := Int.eq_ofNat_of_zero_le h0
  have e : ((2 : Int) ^ s % 256) = ((2 ^ s : Nat) : Int) := (pow_flip ⟨s, hs⟩).1
  have e2 : 2 ^ s < 256 := (pow_flip ⟨s, hs⟩).2
  have hm : m < 256 := by omega
  have h3 : (m ^^^ 2 ^ s) ≠ m ∧ (m ^^^ 2 ^ s) < 256 := flip_ne ⟨m, hm⟩ ⟨s, hs⟩
  have h4 : bits .xor .u8 (m : Int) (2 ^ s % 256) = ((m ^^^ 2 ^ s : Nat) : Int) := by rw [e]; exact u8_xor_nat m (2 ^ s) hm e2
  rw [h4]
  omega
/-- Get of bytes that are no packet's. -/
theorem get_bad (A : Option Addr) (n c : Nat) (b : List Int) (w : World) (r : Rd w .u8 A n b) (l : n ≤ c) (z : A = none → c = 0) (E : Int) (hE : pkGetE b = E) (h0 : E ≠ 0) : Calls Try.prog 8 #[.slice A n c] w fun e w' => e = .returned (.tuple #[.agg zPkt.toArray, .int .i64 E]) ∧ Below w.heap.size w w' := by
  refine (pkget_any A n c b w r l z).mono ?_
  rintro e w' (⟨hne, rfl, hB⟩ | ⟨_, _, h00, _⟩)
  · rw [hE]; exact ⟨rfl, hB⟩
  · rw [hE] at h00; exact absurd h00 h0

set_option maxRecDepth 100000 in
set_option maxHeartbeats 4000000 in
theorem back_at (kind : Int) (f t : List Int) (ps : List Piece) (A : Option Addr) (n c : Nat) (at_ bit : Int) (w : World) (hps : Ps w A n ps) (hf : f.length = 16) (ht : t.length = 16) (hfb : isB f) (htb : isB t) (hk : 0 ≤ kind ∧ kind ≤ 255) (ha : 0 ≤ at_ ∧ at_ ≤ 65535) (hbit : 0 ≤ bit ∧ bit ≤ 255) :
    Calls Try.prog 3 #[.agg (pktC kind f t (.slice A n c)).toArray, .int .u16 at_, .int .u8 bit] w fun e w' => e = .returned (.bool true) ∧ Below w.heap.size w w' := by
  obtain ⟨Z, hZ⟩ : ∃ Z, zPkt = Z := ⟨_, rfl⟩
  have hZl : Z.length = 34 := by rw [← hZ]; exact pktC_length rfl rfl
  have hZ1 : ∀ v ∈ Z, v.oneCell' = true := by rw [← hZ]; exact pktC_one
  have hsz : (Try.prog.info? 27).map (·.size) = some Z.length := by rw [hZl]; exact info_pkt
  have hu : Try.prog.underlying 27 = some (.struct _) := Try.underlying27
  have hXl : (pktC kind f t (.slice A n c)).length = Z.length := by rw [pktC_length hf ht, hZl]
  have hbad : ∀ (A : Option Addr) (n c : Nat) (b : List Int) (w : World), Rd w .u8 A n b → n ≤ c → (A = none → c = 0) → ∀ E : Int, pkGetE b = E → E ≠ 0 → Calls Try.prog 8 #[.slice A n c] w fun e w' => e = .returned (.tuple #[.agg Z.toArray, .int .i64 E]) ∧ Below w.heap.size w w' := fun A n c b w r l z E hE h0 => hZ ▸ get_bad A n c b w r l z E hE h0
  have hB0 := new_below w (.cells (pktC kind f t (.slice A n c)).toArray 27)
  have hps0 := hps.below hB0
  have hput := pkput_any kind f t ps A n c _ hps0 hf ht hfb htb hk
  have hsame : ∀ (W : World) (A2 : Option Addr) (n2 c2 : Nat), Below w.heap.size w W → Ps W A2 n2 ps → Calls Try.prog 9 #[.agg (pktC kind f t (.slice A n c)).toArray, .agg (pktC kind f t (.slice A2 n2 c2)).toArray] W fun e w' => e = .returned (.bool true) ∧ Below W.heap.size W w' := fun W A2 n2 c2 hW h2 => samepk_any kind f t ps A A2 n c n2 c2 W (hps.below hW) h2 hf ht
  have hkx := Blk.new w 27 (pktC kind f t (.slice A n c))
  obtain ⟨X, hX⟩ : ∃ X, pktC kind f t (.slice A n c) = X := ⟨_, rfl⟩
  rw [hX] at hXl hput hB0 hkx ⊢
  simp only [hX] at hsame
  have hpok := ps_ok hps
  have HZ := Lib.hid hZ
  have HZL := Lib.hid hZl
  have HZ1 := Lib.hid hZ1
  have HSZ := Lib.hid hsz
  have HU := Lib.hid hu
  have HXL := Lib.hid hXl
  have HSZX : Hid ((Try.prog.info? 27).map (·.size) = some X.length) := Lib.hid (by rw [hXl]; exact hsz)
  have HBAD := Lib.hid hbad
  have HB0 := Lib.hid hB0
  have HPUT := Lib.hid hput
  have HSAME := Lib.hid hsame
  have HKX := Lib.hid hkx
  have HPOK := Lib.hid hpok
  clear hZ hZl hZ1 hsz hu hXl hbad hB0 hput hsame hkx hps0 hps hX hpok
  go_enter Try.func3, Try.ntmps3
  go_wp2_with (first
    | (refine wpList_value (o := ⟨some 3, .box 27 _, _, _, _, _⟩) (v := .pointer (some ⟨w.heap.size, 0, none⟩)) (w' := w.alloc (.cells X.toArray 27)) rfl (by rfl) ?_)
    | (refine wpList_load_mid rfl 27 _ rfl w.heap.size 0 rfl X _ HKX.out.range HU.out rfl HSZX.out ?_))
  refine HPUT.out.mono ?_
  rintro e w2 (⟨hne, rfl, hB2⟩ | ⟨g, L, h00, hL, rfl, hg, hr, hB2⟩)
  · have HNE := Lib.hid hne
    have HB2 := Lib.hid (HB0.out.trans (hB2.mono HB0.out.size))
    generalize pkE kind ps = E at *
    clear hB2
    go_wp2_with fail
    refine (lives_true _).mono ?_; rintro e w4 ⟨rfl, hB4⟩
    have HB4 := Lib.hid (HB2.out.trans (hB4.mono HB2.out.size))
    clear hB4
    go_wp2_with fail
    go_ret
    exact ⟨rfl, HB4.out⟩
  · obtain ⟨g1, g2, g3, g4, g5, g6, g7, g8, g9⟩ := get_of_put h00 HPOK.out hf ht hfb htb
    have hB2' := HB0.out.trans (hB2.mono HB0.out.size)
    have HKX2 := Lib.hid (HKX.out.below hB2 HKX.out.lt)
    have hgl : g < w2.heap.size := by
      obtain ⟨b', o', e, hb, _⟩ := hr.row (by omega)
      injection e with e; injection e with e; omega
    have hget : Calls Try.prog 8 #[.slice (some ⟨g, 0, none⟩) L L] w2 fun e w' => ∃ A2 n2, e = .returned (.tuple #[.agg (pktC kind f t (.slice A2 n2 n2)).toArray, .int .i64 0]) ∧ Ps w' A2 n2 ps ∧ Below w2.heap.size w2 w' := by
      refine (pkget_any (some ⟨g, 0, none⟩) L L _ w2 hr (Nat.le_refl _) (fun e => by cases e)).mono ?_
      rintro e w' (⟨hne, _⟩ | ⟨A2, n2, _, hn2, rfl, hps2, _, hB⟩)
      · exact absurd g1 hne
      · rw [g6] at hn2 hps2
        rw [g3, g4, g5]
        exact ⟨A2, n2, rfl, hps2.ps, hB⟩
    obtain ⟨B, hBB⟩ : ∃ B, pkB kind f t (pieces ps) = B := ⟨_, rfl⟩
    rw [hBB] at hL hr g1 g2 g7 g8 g9
    rw [hL] at g8 g9
    have HGET := Lib.hid hget
    have HR := Lib.hid hr
    have HB2 := Lib.hid hB2'
    have HOKB := Lib.hid g2
    have HISB := Lib.hid g7
    have HBL := Lib.hid hL
    have hL40 : 40 ≤ L := g8
    have hL48 : L ≤ 2048 := g9
    clear hget hr hB2 hB2' g1 g2 g3 g4 g5 g6 g7 hL hBB h00 g8 g9
    go_wp2_with fail
    refine HGET.out.mono ?_
    rintro e w3 ⟨A2, n2, rfl, hps2, hB3⟩
    have hYl : (pktC kind f t (.slice A2 n2 n2)).length = Z.length := by rw [pktC_length hf ht, HZL.out]
    have hY1 : ∀ v ∈ pktC kind f t (.slice A2 n2 n2), v.oneCell' = true := pktC_one
    have HSAME2 : Hid (∀ W, Below w3.heap.size w3 W → Calls Try.prog 9 #[.agg X.toArray, .agg (pktC kind f t (.slice A2 n2 n2)).toArray] W fun e w' => e = .returned (.bool true) ∧ Below W.heap.size W w') := Lib.hid (fun W hW => HSAME.out W A2 n2 n2 (HB2.out.trans ((hB3.trans (hW.mono hB3.size)).mono HB2.out.size)) (hps2.below hW))
    generalize pktC kind f t (.slice A2 n2 n2) = Y at *
    have HYL := Lib.hid hYl
    have HY1 := Lib.hid hY1
    have HSZY : Hid ((Try.prog.info? 27).map (·.size) = some Y.length) := Lib.hid (by rw [hYl]; exact HSZ.out)
    have HB3 := Lib.hid hB3
    have HKA3 : Hid (Blk (w3.alloc (.cells Z.toArray 27)) w3.heap.size 27 Z) := Lib.hid (Blk.new w3 27 Z)
    have HKY : Hid (Blk ((w3.alloc (.cells Z.toArray 27)).setCells w3.heap.size 0 Y) w3.heap.size 27 Y) := Lib.hid (by
      have := Blk.setCells Y 0 _ _ HKA3.out (by omega)
      rwa [splice_whole _ _ hYl] at this)
    have HBB3 : Hid (Below w3.heap.size w3 ((w3.alloc (.cells Z.toArray 27)).setCells w3.heap.size 0 Y)) := Lib.hid (below_keeps (new_below w3 _) (Keeps.setCells (g := w3.heap.size) Y 0 _) (Nat.le_refl _) (fun i hi => by subst hi; exact Nat.le_refl _))
    have HKX3 := Lib.hid ((HKX2.out.below HB3.out HKX2.out.lt).below HBB3.out (HKX2.out.below HB3.out HKX2.out.lt).lt)
    have q0 : ¬ (L = 0) := by omega
    clear hYl hY1 hps2 hB3 HSAME HGET
    go_wp2_with (first
      | (refine wpList_value (o := ⟨some 9, .alloc 27, _, _, _, _⟩) (v := .pointer (some ⟨w3.heap.size, 0, none⟩)) (w' := w3.alloc (.cells zPkt.toArray 27)) rfl (by kernel_rfl) ?_; rw [HZ.out])
      | (refine wpList_store_mid rfl 27 _ _ rfl w3.heap.size 0 Y.toArray rfl rfl (HKA3.out.there 0 _ (by simp [HYL.out])) (by simpa using HSZY.out) (all_oneCell_toArray HY1.out) ?_; rw [show Y.toArray.toList = Y from rfl])
      | (refine wpList_load_want (by rfl) 27 _ rfl w.heap.size 0 rfl X _ HKX3.out.range HU.out rfl HSZX.out ?_)
      | (refine wpList_load_want (by rfl) 27 _ rfl w3.heap.size 0 rfl Y _ HKY.out.range HU.out rfl HSZY.out ?_))
    have HB24 := Lib.hid (HB3.out.trans (HBB3.out.mono HB3.out.size))
    refine (HSAME2.out _ HBB3.out).mono ?_; rintro e w5 ⟨rfl, hB5⟩
    have HB5 := Lib.hid (HB24.out.trans (hB5.mono HB24.out.size))
    clear hB5 HKY HKX3 HKA3 HBB3 HSAME2 HB24 HKX2
    have hr5 := HR.out.below HB5.out
    have htw := twin_any (some ⟨g, 0, none⟩) L L B w5 hr5 (Nat.le_refl _) (by omega)
    go_wp2_with fail
    refine htw.mono ?_
    rintro e w6 ⟨g6, cap6, rfl, hc6, hm6, hg6, hlt6, ho6, hB6⟩
    rw [HBL.out] at hc6 ho6 ⊢
    have hrow : RowOf w6 g6 L B := by
      rcases ho6.2 with ⟨e, _⟩ | ⟨g', cap', cur, e, _, hh, _, _, _, ht⟩
      · injection e with e; cases e
      · injection e with e1 _ e2
        injection e1 with e1
        injection e1 with e1
        subst e1
        exact ⟨HBL.out, cur.toList, hh, by simpa using ht⟩
    have HB6 := Lib.hid (HB5.out.trans (hB6.mono HB5.out.size))
    have HROW := Lib.hid hrow
    obtain ⟨a', rfl⟩ := Int.eq_ofNat_of_zero_le ha.1
    obtain ⟨b', rfl⟩ := Int.eq_ofNat_of_zero_le hbit.1
    simp only [Int.ofNat_eq_natCast] at *
    obtain ⟨i, hi⟩ : ∃ i, a' % L = i := ⟨_, rfl⟩
    obtain ⟨s, hs⟩ : ∃ s, b' % 8 = s := ⟨_, rfl⟩
    have hil : i < L := by rw [← hi]; exact Nat.mod_lt _ (by omega)
    have hsl : s < 8 := by rw [← hs]; exact Nat.mod_lt _ (by omega)
    have hma : (a' : Int).tmod (L : Int) = (i : Int) := by rw [Int.tmod_eq_emod_of_nonneg (by omega), ← hi]; exact (Int.natCast_emod a' L).symm
    have hmb : (b' : Int).tmod 8 = (s : Int) := by rw [Int.tmod_eq_emod_of_nonneg (by omega), ← hs]; omega
    have hwi : IntKind.i64.wrap (i : Int) = (i : Int) := IntWalk.i64_in _ (by omega)
    have hws : IntKind.u8.wrap (s : Int) = (s : Int) := IntWalk.u8_in _ (by omega)
    have ci := hrow.cell hil
    have fi := hrow.free i
    have p0 : (0 : Int) ≤ (i : Int) := by omega
    have p1 : (i : Int) < (L : Int) := by omega
    have hxb := isB_at HISB.out i
    obtain ⟨x, hx⟩ : ∃ x, B[i]?.getD 0 = x := ⟨_, rfl⟩
    rw [hx] at ci hxb
    have HX := Lib.hid hx
    clear hrow hB6 ho6 hr5 htw hx hi hs
    go_wp2_with fail
    obtain ⟨f1, f2, f3⟩ := flip_int x s hxb.1 hxb.2 hsl
    obtain ⟨y, hy⟩ : ∃ y, bits BinOp.xor IntKind.u8 x (2 ^ s % 256) = y := ⟨_, rfl⟩
    rw [hy] at f1 f2 f3 ⊢
    have hB7 : Below w2.heap.size w2 (w6.setCell ⟨g6, i, none⟩ (.int .u8 y)) := below_keeps HB6.out (Keeps.set1 w6 ⟨g6, i, none⟩ (.int .u8 y)) (Nat.le_refl _) (fun j hj => by subst hj; exact Nat.le_trans HB5.out.size hg6)
    have hrow7 : RowOf (w6.setCell ⟨g6, i, none⟩ (.int .u8 y)) g6 L (B.set i y) := HROW.out.put i y
    have hg7 := HBAD.out (some ⟨g6, 0, none⟩) L cap6 (B.set i y) _ (hrow7.rd (isB_set HISB.out ⟨f2, f3⟩) (by omega)) (by omega) (fun e => by cases e) 4 (bad_bit HISB.out (by rw [HBL.out]; omega) (by rw [HBL.out]; omega) HOKB.out (by rw [HBL.out]; exact hil) ⟨f2, f3⟩ (by rw [HX.out]; exact f1)) (by omega)
    generalize w6.setCell ⟨g6, i, none⟩ (.int .u8 y) = w7 at *
    have HB7 := Lib.hid hB7
    have HG7 := Lib.hid hg7
    clear hrow7 hB7 hg7 ci fi hy f1 f2 f3
    refine HG7.out.mono ?_; rintro e w8 ⟨rfl, hB8⟩
    have HB8 := Lib.hid (HB7.out.trans (hB8.mono HB7.out.size))
    clear hB8
    have HKA8 : Hid (Blk (w8.alloc (.cells Z.toArray 27)) w8.heap.size 27 Z) := Lib.hid (Blk.new w8 27 Z)
    have HBB8 : Hid (Below w8.heap.size w8 ((w8.alloc (.cells Z.toArray 27)).setCells w8.heap.size 0 Z)) := Lib.hid (below_keeps (new_below w8 _) (Keeps.setCells (g := w8.heap.size) Z 0 _) (Nat.le_refl _) (fun i hi => by subst hi; exact Nat.le_refl _))
    have HB9 := Lib.hid (HB8.out.trans (HBB8.out.mono HB8.out.size))
    have hwL : IntKind.i64.wrap ((L : Int) - 1) = ((L - 1 : Nat) : Int) := by rw [IntWalk.i64_in _ (by omega)]; omega
    have hslL := fun W => slice_to W (some ⟨g, 0, none⟩) L L (L - 1) (by omega)
    go_wp2_with (first
      | (refine wpList_value (o := ⟨some 12, .alloc 27, _, _, _, _⟩) (v := .pointer (some ⟨w8.heap.size, 0, none⟩)) (w' := w8.alloc (.cells zPkt.toArray 27)) rfl (by kernel_rfl) ?_; rw [HZ.out])
      | (refine wpList_store_mid rfl 27 _ _ rfl w8.heap.size 0 Z.toArray rfl rfl (HKA8.out.there 0 _ (by simp)) (by simpa using HSZ.out) (all_oneCell_toArray HZ1.out) ?_; rw [show Z.toArray.toList = Z from rfl]))
    have hr9 := HR.out.below HB9.out
    have hrl : Rd ((w8.alloc (.cells Z.toArray 27)).setCells w8.heap.size 0 Z) .u8 (some ⟨g, 0, none⟩) (L - 1) (B.take (L - 1)) := by simpa using hr9.sub 0 (L - 1) (by omega)
    obtain ⟨E1, hE1, hE45⟩ : ∃ E, pkGetE (B.take (L - 1)) = E ∧ (E = 4 ∨ E = 5) := ⟨_, rfl, by have := bad_less (b := B) (by rw [HBL.out]; omega) (by rw [HBL.out]; omega) HOKB.out; rwa [HBL.out] at this⟩
    have hg9 := HBAD.out (some ⟨g, 0, none⟩) (L - 1) L (B.take (L - 1)) _ hrl (by omega) (fun e => by cases e) E1 hE1 (by omega)
    generalize (w8.alloc (.cells Z.toArray 27)).setCells w8.heap.size 0 Z = w9 at *
    have HG9 := Lib.hid hg9
    clear hr9 hrl hg9 hE1 HKA8 HBB8
    refine HG9.out.mono ?_; rintro e w10 ⟨rfl, hB10⟩
    have HB10 := Lib.hid (HB9.out.trans (hB10.mono HB9.out.size))
    clear hB10
    have HKA10 : Hid (Blk (w10.alloc (.cells Z.toArray 27)) w10.heap.size 27 Z) := Lib.hid (Blk.new w10 27 Z)
    have HBB10 : Hid (Below w10.heap.size w10 ((w10.alloc (.cells Z.toArray 27)).setCells w10.heap.size 0 Z)) := Lib.hid (below_keeps (new_below w10 _) (Keeps.setCells (g := w10.heap.size) Z 0 _) (Nat.le_refl _) (fun i hi => by subst hi; exact Nat.le_refl _))
    have HB11 := Lib.hid (HB10.out.trans (HBB10.out.mono HB10.out.size))
    go_wp2_with (first
      | (refine wpList_value (o := ⟨some 14, .alloc 27, _, _, _, _⟩) (v := .pointer (some ⟨w10.heap.size, 0, none⟩)) (w' := w10.alloc (.cells zPkt.toArray 27)) rfl (by kernel_rfl) ?_; rw [HZ.out])
      | (refine wpList_store_mid rfl 27 _ _ rfl w10.heap.size 0 Z.toArray rfl rfl (HKA10.out.there 0 _ (by simp)) (by simpa using HSZ.out) (all_oneCell_toArray HZ1.out) ?_; rw [show Z.toArray.toList = Z from rfl]))
    have hr11 := HR.out.below HB11.out
    have htw := twin_any (some ⟨g, 0, none⟩) L L B _ hr11 (Nat.le_refl _) (by omega)
    generalize (w10.alloc (.cells Z.toArray 27)).setCells w10.heap.size 0 Z = w11 at *
    have HTW := Lib.hid htw
    clear hr11 htw HKA10 HBB10
    refine HTW.out.mono ?_
    rintro e w12 ⟨g12, cap12, rfl, hc12, hm12, hg12, hlt12, ho12, hB12⟩
    rw [HBL.out] at hc12 ho12 ⊢
    have HO12 := Lib.hid ho12
    have HB12 := Lib.hid hB12
    clear ho12 hB12
    go_wp2_with (at_builtin; refine append_int (W := w12) w11.heap.size rfl _ _ 29 5 .u8 1 rfl Try.underlying29 info_u8n (by omega) (.slice (some ⟨g12, 0, none⟩) L cap12) L B 0 rfl rfl HO12.out HB12.out.size (by omega) ?_; intro v1 w13 ho13 hk13 hb13; obtain ⟨g13, c13, rfl, hc13, hg13, hlt13⟩ := own_some ho13 (by omega))
    have hrd13 : Rd w13 .u8 (some ⟨g13, 0, none⟩) (L + 1) (B ++ [0]) := rd_own ho13 (by
      intro x hx
      rcases List.mem_append.1 hx with hx | hx
      · exact HISB.out x hx
      · simp at hx; omega) (by omega)
    obtain ⟨E2, hE2, hE43⟩ : ∃ E, pkGetE (B ++ [0]) = E ∧ (E = 4 ∨ E = 3) := ⟨_, rfl, bad_more (b := B) (by rw [HBL.out]; omega) (by rw [HBL.out]; omega) HOKB.out⟩
    have hg13' := HBAD.out (some ⟨g13, 0, none⟩) (L + 1) c13 (B ++ [0]) w13 hrd13 hc13 (fun e => by cases e) E2 hE2 (by omega)
    have HG13 := Lib.hid hg13'
    have HB13 := Lib.hid (HB11.out.trans ((below_keeps HB12.out hk13 (Nat.le_refl _) (fun i hi => (own_base HO12.out i hi).1)).mono HB11.out.size))
    clear hrd13 hg13' hE2 ho13 hk13 hb13
    refine HG13.out.mono ?_; rintro e w14 ⟨rfl, hB14⟩
    have HB14 := Lib.hid (HB13.out.trans (hB14.mono HB13.out.size))
    clear hB14
    have HKA14 : Hid (Blk (w14.alloc (.cells Z.toArray 27)) w14.heap.size 27 Z) := Lib.hid (Blk.new w14 27 Z)
    have HBB14 : Hid (Below w14.heap.size w14 ((w14.alloc (.cells Z.toArray 27)).setCells w14.heap.size 0 Z)) := Lib.hid (below_keeps (new_below w14 _) (Keeps.setCells (g := w14.heap.size) Z 0 _) (Nat.le_refl _) (fun i hi => by subst hi; exact Nat.le_refl _))
    have HB15 := Lib.hid (HB2.out.trans ((HB14.out.trans (HBB14.out.mono HB14.out.size)).mono HB2.out.size))
    rcases hE45 with rfl | rfl <;> rcases hE43 with rfl | rfl
    all_goals
      go_wp2_with (first
        | (refine wpList_value (o := ⟨some 16, .alloc 27, _, _, _, _⟩) (v := .pointer (some ⟨w14.heap.size, 0, none⟩)) (w' := w14.alloc (.cells zPkt.toArray 27)) rfl (by kernel_rfl) ?_; rw [HZ.out])
        | (refine wpList_store_mid rfl 27 _ _ rfl w14.heap.size 0 Z.toArray rfl rfl (HKA14.out.there 0 _ (by simp)) (by simpa using HSZ.out) (all_oneCell_toArray HZ1.out) ?_; rw [show Z.toArray.toList = Z from rfl]))
      refine (lives_true _).mono ?_; rintro e w16 ⟨rfl, hB16⟩
      have HB16 := Lib.hid (HB15.out.trans (hB16.mono HB15.out.size))
      clear hB16
      go_wp2_with fail
      go_ret
      exact ⟨rfl, HB16.out⟩
end Go.Proofs.Ytfbkapaopnhbbaa
