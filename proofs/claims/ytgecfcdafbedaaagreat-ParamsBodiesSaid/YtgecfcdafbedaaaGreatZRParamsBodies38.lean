/- The walks over the document's Row and Put; The walk over the document's PutLong. -/
import Derived.Test.YtgecfcdafbedaaaGreatZRParamsBodies35
import Derived.Test.YtgecfcdafbedaaaGreatZRParamsBodies13
import Derived.Test.YtgecfcdafbedaaaGreatZRParamsBodies29
namespace Go.Proofs.YtgecfcdafbedaaaGreat
open Go.RowKit
set_option linter.unusedSimpArgs false
set_option linter.unusedVariables false

theorem NewB.before {w w1 w' : World} {bytes : List Int} {e : Ending} (h : NewB w1 bytes e w') (hb : Below w.heap.size w w1) : NewB w bytes e w' := by
  obtain ⟨A, c, m, hm, he, hr, hz, hc, hB⟩ := h
  exact ⟨A, c, m, hm, he, hr, hz, hc, hb.trans (hB.mono hb.size)⟩

set_option maxRecDepth 100000 in
set_option maxHeartbeats 1000000 in
theorem rrow_own (k : Nat) : ∀ (n kk : Int) (w : World), kk.toNat = k → kk ≤ 8 → 0 ≤ n → n ≤ 18446744073709551615 →
    Calls Tryz.prog 82 #[.int .u64 n, .int .i64 kk] w fun e w' => ∃ A c, e = .returned (.slice A k c) ∧ w'.ownsRow w.heap.size 5 1 (.slice A k c) k ((be n k).map (Value.int .u8)) ∧ Below w.heap.size w w' := by
  induction k with
  | zero =>
    intro n kk w hk h8 h0 h1
    have hlt : kk < 1 := by omega
    clear hk h8
    go_enter Tryz.func82, Tryz.ntmps82
    go_wp2_with fail
    go_ret
    exact ⟨none, 0, rfl, own_nil _ _ _ _, Below.refl _ _⟩
  | succ k ih =>
    intro n kk w hk h8 h0 h1
    obtain rfl : kk = (k : Int) + 1 := by omega
    have hrec := ih (n / 256) (k : Int) w (by omega) (by omega) (by omega) (by omega)
    have hq : n.tdiv 256 = n / 256 := Int.tdiv_eq_ediv_of_nonneg h0
    have hr : n.tmod 256 = n % 256 := Int.tmod_eq_emod_of_nonneg h0
    have hw1 : IntKind.u64.wrap (n / 256) = n / 256 := IntWalk.u64_in _ (by omega)
    have hw2 : IntKind.u8.wrap (n % 256) = n % 256 := IntWalk.u8_in _ (by omega)
    have hw2b : IntKind.u64.wrap (n % 256) = n % 256 := IntWalk.u64_in _ (by omega)
    have hw3 : IntKind.i64.wrap ((k : Int) + 1 - 1) = (k : Int) := by rw [IntWalk.i64_in _ (by omega)]; omega
    have hb : 0 ≤ n % 256 ∧ n % 256 ≤ 255 := by omega
    have hbe : be n (k + 1) = be (n / 256) k ++ [n % 256] := rfl
    rw [hbe]
    generalize n / 256 = q at *
    generalize n % 256 = r at *
    have HREC := Lib.hid hrec
    clear ih hrec hbe hk
    have hge : ¬ ((k : Int) + 1 < 1) := by omega
    go_enter Tryz.func82, Tryz.ntmps82
    go_wp2_with fail
    refine HREC.out.mono ?_; rintro e w1 ⟨A, c, rfl, ho, hB⟩
    have HO := Lib.hid ho
    have HB := Lib.hid hB
    clear ho hB
    go_wp2_with (at_builtin; refine append_int (W := w1) w.heap.size rfl _ _ 22 5 .u8 1 rfl Tryz.underlying22 info_u8n (by omega) (.slice A k c) k (be q k) r rfl rfl HO.out HB.out.size (by omega) ?_; intro v2 w2 ho2 hk2 hb2; obtain ⟨A2, c2, rfl, -, -, -⟩ := own_slice ho2; have HO2 := Lib.hid ho2; have HK2 := Lib.hid hk2; clear ho2 hk2 hb2)
    go_ret
    exact ⟨A2, c2, rfl, HO2.out, below_keeps HB.out HK2.out (Nat.le_refl _) (fun i hi => (own_base HO.out i hi).1)⟩
theorem rrow_any (k : Nat) (n kk : Int) (w : World) (hk : kk.toNat = k) (h8 : kk ≤ 8) (h0 : 0 ≤ n) (h1 : n ≤ 18446744073709551615) :
    Calls Tryz.prog 82 #[.int .u64 n, .int .i64 kk] w fun e w' => ∃ A c, e = .returned (.slice A k c) ∧ Rd w' .u8 A k (be n k) ∧ (A = none → c = 0) ∧ Below w.heap.size w w' := by
  refine (rrow_own k n kk w hk h8 h0 h1).mono ?_
  rintro e w' ⟨A, c, rfl, ho, hB⟩
  obtain ⟨A', c', he, hr, hz, _⟩ := rd_own_any ho (be_byte k n) (by omega)
  injection he with e1 _ e2
  subst e1; subst e2
  exact ⟨_, _, rfl, hr, hz, hB⟩

set_option maxRecDepth 100000 in
set_option maxHeartbeats 1000000 in
theorem rput_own (A0 : Option Addr) (n0 c0 : Nat) (bs : List Int) (n k : Int) (w : World) (r0 : Rd w .u8 A0 n0 bs) (z0 : A0 = none → c0 = 0) (hn : n0 ≤ 4194304) (h0 : 0 ≤ n) (h1 : n ≤ 18446744073709551615) :
    Calls Tryz.prog 65 #[.slice A0 n0 c0, .int .u64 n, .int .i64 k] w (NewO w (bs ++ be n (putMany k))) := by
  have FIN : ∀ (kk : Int) (m : Nat), kk.toNat = m → kk ≤ 8 → Calls Tryz.prog 82 #[.int .u64 n, .int .i64 kk] w fun e w1 => ∃ A c, e = .returned (.slice A m c) ∧ Below w.heap.size w w1 ∧ Calls Tryz.prog 81 #[.slice A0 n0 c0, .slice A m c] w1 (NewO w (bs ++ be n m)) := fun kk m hm h8 => by
    refine (rrow_any m n kk w hm h8 h0 h1).mono ?_
    rintro e w1 ⟨A, c, rfl, hr, hz, hB⟩
    exact ⟨A, c, rfl, hB, (behind_own A0 n0 c0 bs A m c (be n m) w1 (r0.below hB) z0 hr hz (by omega)).mono fun e w' h => h.before hB⟩
  by_cases k8 : 8 < k
  · have e1 : putMany k = 8 := by unfold putMany; omega
    have HF := Lib.hid (FIN 8 8 rfl (by omega))
    rw [e1]
    clear FIN e1
    go_enter Tryz.func65, Tryz.ntmps65
    go_wp2_with fail
    refine HF.out.mono ?_; rintro e w1 ⟨A, c, rfl, hB, hb⟩
    have HBH := Lib.hid hb
    clear hb hB
    go_wp2_with fail
    refine HBH.out.mono ?_; rintro e w2 ⟨A2, c2, m2, hm2, rfl, ho2, hB2⟩
    have H2 := Lib.hid (And.intro ho2 hB2)
    have HM2 := Lib.hid hm2
    clear ho2 hB2 hm2
    go_wp2_with fail
    go_ret
    exact ⟨A2, c2, m2, HM2.out, rfl, H2.out.1, H2.out.2⟩
  by_cases k8e : k = 8
  · subst k8e
    have e1 : putMany 8 = 8 := by unfold putMany; omega
    have HF := Lib.hid (FIN 8 8 rfl (by omega))
    rw [e1]
    clear FIN e1 k8
    go_enter Tryz.func65, Tryz.ntmps65
    go_wp2_with fail
    refine HF.out.mono ?_; rintro e w1 ⟨A, c, rfl, hB, hb⟩
    have HBH := Lib.hid hb
    clear hb hB
    go_wp2_with fail
    refine HBH.out.mono ?_; rintro e w2 ⟨A2, c2, m2, hm2, rfl, ho2, hB2⟩
    have H2 := Lib.hid (And.intro ho2 hB2)
    have HM2 := Lib.hid hm2
    clear ho2 hB2 hm2
    go_wp2_with fail
    go_ret
    exact ⟨A2, c2, m2, HM2.out, rfl, H2.out.1, H2.out.2⟩
  · have e1 : putMany k = k.toNat := by unfold putMany; omega
    have k9 : k ≤ 8 := by omega
    have HF := Lib.hid (FIN k k.toNat rfl k9)
    rw [e1]
    have k7 : k < 8 := by omega
    clear FIN e1
    go_enter Tryz.func65, Tryz.ntmps65
    go_wp2_with fail
    refine HF.out.mono ?_; rintro e w1 ⟨A, c, rfl, hB, hb⟩
    have HBH := Lib.hid hb
    clear hb hB
    go_wp2_with fail
    refine HBH.out.mono ?_; rintro e w2 ⟨A2, c2, m2, hm2, rfl, ho2, hB2⟩
    have H2 := Lib.hid (And.intro ho2 hB2)
    have HM2 := Lib.hid hm2
    clear ho2 hB2 hm2
    go_wp2_with fail
    go_ret
    exact ⟨A2, c2, m2, HM2.out, rfl, H2.out.1, H2.out.2⟩

theorem rput_any (A0 : Option Addr) (n0 c0 : Nat) (bs : List Int) (n k : Int) (w : World) (r0 : Rd w .u8 A0 n0 bs) (z0 : A0 = none → c0 = 0) (hn : n0 ≤ 4194304) (h0 : 0 ≤ n) (h1 : n ≤ 18446744073709551615) :
    Calls Tryz.prog 65 #[.slice A0 n0 c0, .int .u64 n, .int .i64 k] w (NewB w (bs ++ be n (putMany k))) :=
  (rput_own A0 n0 c0 bs n k w r0 z0 hn h0 h1).mono fun e w' h => h.newB (fun x hx => by
    rcases List.mem_append.1 hx with h | h
    · exact rd_bytes r0 x h
    · exact be_byte _ _ x h) (by have := r0.len; rw [List.length_append, be_length]; unfold putMany; omega)

end Go.Proofs.YtgecfcdafbedaaaGreat

namespace Go.Proofs.YtgecfcdafbedaaaGreat
open Go.RowKit
set_option linter.unusedSimpArgs false
set_option linter.unusedVariables false

theorem flat_cons (x : Int) (l : List Int) : flat (x :: l) 8 = be x 8 ++ flat l 8 := rfl
set_option maxRecDepth 100000 in
set_option maxHeartbeats 2000000 in
theorem rputlong_any (A0 : Option Addr) (n0 c0 : Nat) (bs : List Int) (a b c d : Int) (w : World) (r0 : Rd w .u8 A0 n0 bs) (z0 : A0 = none → c0 = 0) (hn : n0 ≤ 4194304)
    (ha : 0 ≤ a ∧ a ≤ 18446744073709551615) (hb : 0 ≤ b ∧ b ≤ 18446744073709551615) (hc : 0 ≤ c ∧ c ≤ 18446744073709551615) (hd : 0 ≤ d ∧ d ≤ 18446744073709551615) :
    Calls Tryz.prog 67 #[.slice A0 n0 c0, longVal a b c d] w (NewB w (bs ++ flat [d, c, b, a] 8)) := by
  have hrow : ∀ (x : Int), 0 ≤ x ∧ x ≤ 18446744073709551615 → ∀ (W : World) (A : Option Addr) (m cc : Nat) (l : List Int), Rd W .u8 A m (flat l 8) → (A = none → cc = 0) → m ≤ 1000 → Calls Tryz.prog 82 #[.int .u64 x, .int .i64 8] W fun e W1 => ∃ A1 c1, e = .returned (.slice A1 8 c1) ∧ Calls Tryz.prog 81 #[.slice A1 8 c1, .slice A m cc] W1 fun e W2 => ∃ A2 c2, e = .returned (.slice A2 (m + 8) c2) ∧ Rd W2 .u8 A2 (m + 8) (flat (x :: l) 8) ∧ (A2 = none → c2 = 0) ∧ Below W.heap.size W W2 := fun x hx W A m cc l hr hz hm => by
    refine (rrow_any 8 x 8 W rfl (by omega) hx.1 hx.2).mono ?_
    rintro e W1 ⟨A1, c1, rfl, hr1, hz1, hB1⟩
    refine ⟨A1, c1, rfl, (behind_any A1 8 c1 (be x 8) A m cc (flat l 8) W1 hr1 hz1 (hr.below hB1) hz (by omega)).mono ?_⟩
    rintro e W2 ⟨A2, c2, m2, hm2, rfl, hr2, hz2, hc2, hB2⟩
    have hlen : m2 = m + 8 := by rw [← hm2, List.length_append, be_length, hr.len]; omega
    subst hlen
    exact ⟨A2, c2, rfl, hr2, hz2, hB1.trans (hB2.mono hB1.size)⟩
  have hB1 : Below w.heap.size w (w.alloc (.cells #[.int .u64 a, .int .u64 b, .int .u64 c, .int .u64 d] 31)) := (Below.refl _ _).alloc (Nat.le_refl _) _
  have hk1 : Blk (w.alloc (.cells #[.int .u64 a, .int .u64 b, .int .u64 c, .int .u64 d] 31)) w.heap.size 31 [.int .u64 a, .int .u64 b, .int .u64 c, .int .u64 d] := Blk.new _ _ _
  have HROW := Lib.hid hrow
  have HR0 := Lib.hid r0
  have HW := Lib.hid (And.intro ha (And.intro hb (And.intro hc hd)))
  have HB1 := Lib.hid hB1
  have HK1 := Lib.hid hk1
  clear hrow r0 ha hb hc hd hB1 hk1
  unfold longVal
  go_enter Tryz.func67, Tryz.ntmps67
  go_wp2_with fail
  go_loopw [5, 6] (fun v i wr => ∃ (k : Nat) (A : Option Addr) (cc : Nat), k ≤ 4 ∧ i = .int .i64 k ∧ v = .slice A (8 * k) cc ∧ Rd wr .u8 A (8 * k) (flat ([a, b, c, d].take k).reverse 8) ∧ (A = none → cc = 0) ∧ Below w.heap.size w wr ∧ Blk wr w.heap.size 31 [.int .u64 a, .int .u64 b, .int .u64 c, .int .u64 d]) (fun _ i _ => 4 - (intOf i).toNat)
  case atStart => exact ⟨0, none, 0, by omega, rfl, rfl, rd_nil _ .u8, fun _ => rfl, HB1.out, HK1.out⟩
  case round =>
    obtain ⟨k, A, cc, hk, rfl, rfl, hr, hz, hB, hblk⟩ := hrel
    by_cases hk4 : k < 4
    · obtain ⟨x, hx⟩ : ∃ x, [a, b, c, d][k]?.getD 0 = x := ⟨_, rfl⟩
      have hxb : 0 ≤ x ∧ x ≤ 18446744073709551615 := by
        obtain ⟨h1, h2, h3, h4⟩ := HW.out
        rw [← hx]
        rcases k with _ | _ | _ | _ | k
        · exact h1
        · exact h2
        · exact h3
        · exact h4
        · omega
      have hcell : wr.cell? ⟨w.heap.size, k, none⟩ = some (.int .u64 x) := by
        rw [hblk.cell, ← hx]
        rcases k with _ | _ | _ | _ | k
        · rfl
        · rfl
        · rfl
        · rfl
        · omega
      have htk : ([a, b, c, d].take (k + 1)).reverse = x :: ([a, b, c, d].take k).reverse := by
        rw [← hx]
        rcases k with _ | _ | _ | _ | k
        · rfl
        · rfl
        · rfl
        · rfl
        · omega
      have hcall := HROW.out x hxb wr A (8 * k) cc _ hr hz (by omega)
      rw [← htk] at hcall
      have HCALL := Lib.hid hcall
      have HB := Lib.hid hB
      have HBLK := Lib.hid hblk
      clear hcall hr hz hB hblk htk hxb hx HROW HR0 HW HB1 HK1
      go_wp2_with fail
      refine HCALL.out.mono ?_; rintro e w1 ⟨A1, c1, rfl, hb⟩
      have HBH := Lib.hid hb
      clear hb
      go_wp2_with fail
      refine HBH.out.mono ?_; rintro e w2 ⟨A2, c2, rfl, hr2, hz2, hB2⟩
      have H2 := Lib.hid (And.intro hr2 (And.intro hz2 hB2))
      clear hr2 hz2 hB2
      go_wp2_with fail
      refine ⟨⟨k + 1, A2, c2, by omega, by go_num, by rw [show 8 * (k + 1) = 8 * k + 8 by omega], by rw [show 8 * (k + 1) = 8 * k + 8 by omega]; exact H2.out.1, H2.out.2.1, HB.out.trans (H2.out.2.2.mono HB.out.size), HBLK.out.below H2.out.2.2 HBLK.out.lt⟩, by simp [intOf]; omega⟩
    · obtain rfl : k = 4 := by omega
      have hbe := behind_any A0 n0 c0 bs A (8 * 4) cc _ wr (HR0.out.below hB) z0 hr hz (by omega)
      have HBE := Lib.hid hbe
      have HB := Lib.hid hB
      rw [show 8 * 4 = 32 from rfl] at HBE ⊢
      clear hbe hr hz hB hblk HROW HW HB1 HK1
      go_wp2_with fail
      refine HBE.out.mono ?_; intro e w3 h
      have h' := h.before HB.out
      obtain ⟨A3, c3, m3, hm3, rfl, hr3, hz3, hc3, hB3⟩ := h'
      have H3 := Lib.hid (And.intro hr3 (And.intro hz3 (And.intro hc3 hB3)))
      have HM3 := Lib.hid hm3
      clear hr3 hz3 hc3 hB3 h hm3
      go_wp2_with fail
      go_ret
      exact ⟨A3, c3, m3, HM3.out, rfl, H3.out.1, H3.out.2.1, H3.out.2.2.1, H3.out.2.2.2⟩
end Go.Proofs.YtgecfcdafbedaaaGreat
