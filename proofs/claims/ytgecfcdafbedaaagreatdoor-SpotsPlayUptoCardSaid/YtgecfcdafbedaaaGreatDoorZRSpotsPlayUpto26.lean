/- The walk over the document's behind: bytes, and others behind them; The walks over the document's Row and Put. -/
import Derived.Test.YtgecfcdafbedaaaGreatDoorZRSpotsPlayUpto25
import Derived.Test.YtgecfcdafbedaaaGreatDoorZRSpotsPlayUpto24
namespace Go.Proofs.YtgecfcdafbedaaaGreatDoor
open Go.RowKit
set_option linter.unusedSimpArgs false
set_option linter.unusedVariables false

/-- New bytes in memory of the call's own. -/
def NewB (w : World) (bytes : List Int) (e : Ending) (w' : World) : Prop :=
  ∃ A c m, bytes.length = m ∧ e = .returned (.slice A m c) ∧ Rd w' .u8 A m bytes ∧ (A = none → c = 0) ∧ m ≤ c ∧ Below w.heap.size w w'
theorem rd_own_any {w : World} {base n : Nat} {v : Value} {xs : List Int} (h : w.ownsRow base 5 1 v n (xs.map (Value.int .u8))) (hb : ∀ x ∈ xs, 0 ≤ x ∧ x ≤ 255) (hn : n ≤ 140737488351232) : ∃ A c, v = .slice A n c ∧ Rd w .u8 A n xs ∧ (A = none → c = 0) ∧ n ≤ c := by
  rcases h.2 with ⟨rfl, rfl⟩ | ⟨g, cap, cur, rfl, _, _, hc, _⟩
  · have hx : xs = [] := List.eq_nil_of_length_eq_zero (by have := h.1; simpa using this)
    subst hx
    exact ⟨none, 0, rfl, rd_nil w .u8, fun _ => rfl, Nat.le_refl _⟩
  · exact ⟨_, cap, rfl, rd_own h hb hn, (fun e => by cases e), hc⟩

/-- The same, told closer. -/
def NewO (w : World) (bytes : List Int) (e : Ending) (w' : World) : Prop :=
  ∃ A c m, bytes.length = m ∧ e = .returned (.slice A m c) ∧ w'.ownsRow w.heap.size 5 1 (.slice A m c) m (bytes.map (Value.int .u8)) ∧ Below w.heap.size w w'
theorem NewO.newB {w w' : World} {bytes : List Int} {e : Ending} (h : NewO w bytes e w') (hb : ∀ x ∈ bytes, 0 ≤ x ∧ x ≤ 255) (hn : bytes.length ≤ 140737488351232) : NewB w bytes e w' := by
  obtain ⟨A, c, m, hm, rfl, ho, hB⟩ := h
  obtain ⟨A', c', e, hr, hz, hc⟩ := rd_own_any ho hb (by omega)
  injection e with e1 _ e2
  subst e1; subst e2
  exact ⟨_, _, m, hm, rfl, hr, hz, hc, hB⟩
theorem NewO.before {w w1 w' : World} {bytes : List Int} {e : Ending} (h : NewO w1 bytes e w') (hb : Below w.heap.size w w1) : NewO w bytes e w' := by
  obtain ⟨A, c, m, hm, he, ho, hB⟩ := h
  exact ⟨A, c, m, hm, he, own_lower ho hb.size, hb.trans (hB.mono hb.size)⟩

set_option maxRecDepth 100000 in
set_option maxHeartbeats 1000000 in
theorem behind_own (A0 : Option Addr) (n0 c0 : Nat) (x0 : List Int) (A1 : Option Addr) (n1 c1 : Nat) (x1 : List Int) (w : World) (r0 : Rd w .u8 A0 n0 x0) (z0 : A0 = none → c0 = 0) (r1 : Rd w .u8 A1 n1 x1) (z1 : A1 = none → c1 = 0) (hn : n0 + n1 ≤ 70368744177664) :
    Calls Tryz.prog 124 #[.slice A0 n0 c0, .slice A1 n1 c1] w (NewO w (x0 ++ x1)) := by
  have h0 := r0.len
  have h1 := r1.len
  have hb0 := rd_bytes r0
  have hb1 := rd_bytes r1
  have R0 := Lib.hid r0
  have R1 := Lib.hid r1
  clear r0 r1
  go_enter Tryz.func124, Tryz.ntmps124
  go_wp2_with (first
    | (at_builtin; refine append_bytes w.heap.size rfl _ _ rfl v1 (0 + n0) ([] ++ x0) rfl A1 n1 c1 x1 rfl HR1.out z1 HO1.out HB1.out.size (by omega) ?_
       intro v2 w2 ho2 hg2 hat2
       have HG2 := Lib.hid hg2
       clear hg2 hat2)
    | (at_builtin; refine append_bytes w.heap.size rfl _ _ rfl (.slice none 0 0) 0 [] rfl A0 n0 c0 x0 rfl R0.out z0 (own_nil _ _ _ _) (Nat.le_refl _) (by omega) ?_
       intro v1 w1 HO1 hg1 hat1
       have HB1 := Lib.hid (grown_nil hg1)
       have HR1 := Lib.hid (R1.out.below HB1.out)
       clear hg1 hat1))
  have hB2 : Below w.heap.size w w2 := grown_below HB1.out HG2.out HO1.out (Nat.le_refl _)
  obtain ⟨A, c, rfl, hc, _⟩ := own_slice ho2.out
  have ho3 := ho2.out
  rw [List.nil_append] at ho3
  have hlen : (x0 ++ x1).length = 0 + n0 + n1 := by simp [h0, h1]
  go_ret
  exact ⟨A, c, _, hlen, rfl, ho3, hB2⟩
theorem behind_any (A0 : Option Addr) (n0 c0 : Nat) (x0 : List Int) (A1 : Option Addr) (n1 c1 : Nat) (x1 : List Int) (w : World) (r0 : Rd w .u8 A0 n0 x0) (z0 : A0 = none → c0 = 0) (r1 : Rd w .u8 A1 n1 x1) (z1 : A1 = none → c1 = 0) (hn : n0 + n1 ≤ 70368744177664) :
    Calls Tryz.prog 124 #[.slice A0 n0 c0, .slice A1 n1 c1] w (NewB w (x0 ++ x1)) :=
  (behind_own A0 n0 c0 x0 A1 n1 c1 x1 w r0 z0 r1 z1 hn).mono fun e w' h => h.newB (fun x hx => by
    rcases List.mem_append.1 hx with h | h
    · exact rd_bytes r0 x h
    · exact rd_bytes r1 x h) (by have := r0.len; have := r1.len; simp; omega)
end Go.Proofs.YtgecfcdafbedaaaGreatDoor

namespace Go.Proofs.YtgecfcdafbedaaaGreatDoor
open Go.RowKit
set_option linter.unusedSimpArgs false
set_option linter.unusedVariables false

theorem NewB.before {w w1 w' : World} {bytes : List Int} {e : Ending} (h : NewB w1 bytes e w') (hb : Below w.heap.size w w1) : NewB w bytes e w' := by
  obtain ⟨A, c, m, hm, he, hr, hz, hc, hB⟩ := h
  exact ⟨A, c, m, hm, he, hr, hz, hc, hb.trans (hB.mono hb.size)⟩

set_option maxRecDepth 100000 in
set_option maxHeartbeats 1000000 in
theorem rrow_own (k : Nat) : ∀ (n kk : Int) (w : World), kk.toNat = k → kk ≤ 8 → 0 ≤ n → n ≤ 18446744073709551615 →
    Calls Tryz.prog 125 #[.int .u64 n, .int .i64 kk] w fun e w' => ∃ A c, e = .returned (.slice A k c) ∧ w'.ownsRow w.heap.size 5 1 (.slice A k c) k ((be n k).map (Value.int .u8)) ∧ Below w.heap.size w w' := by
  induction k with
  | zero =>
    intro n kk w hk h8 h0 h1
    have hlt : kk < 1 := by omega
    clear hk h8
    go_enter Tryz.func125, Tryz.ntmps125
    go_wp2_with fail
    go_ret
    exact ⟨none, 0, rfl, own_nil _ _ _ _, Below.refl _ _⟩
  | succ k ih =>
    intro n kk w hk h8 h0 h1
    obtain rfl : kk = (k : Int) + 1 := by omega
    have hrec := ih (n / 256) (k : Int) w (by omega) (by omega) (by omega) (by omega)
    have hq : n.tdiv 256 = n / 256 := Int.tdiv_eq_ediv_of_nonneg h0
    have hr : n.tmod 256 = n % 256 := Int.tmod_eq_emod_of_nonneg h0
    have hw1 : IntKind.u64.wrap (n / 256) = n / 256 := IntWalk.u64_in _ (by omega)
    have hw2 : IntKind.u8.wrap (n % 256) = n % 256 := IntWalk.u8_in _ (by omega)
    have hw2b : IntKind.u64.wrap (n % 256) = n % 256 := IntWalk.u64_in _ (by omega)
    have hw3 : IntKind.i64.wrap ((k : Int) + 1 - 1) = (k : Int) := by rw [IntWalk.i64_in _ (by omega)]; omega
    have hb : 0 ≤ n % 256 ∧ n % 256 ≤ 255 := by omega
    have hbe : be n (k + 1) = be (n / 256) k ++ [n % 256] := rfl
    rw [hbe]
    generalize n / 256 = q at *
    generalize n % 256 = r at *
    have HREC := Lib.hid hrec
    clear ih hrec hbe hk
    have hge : ¬ ((k : Int) + 1 < 1) := by omega
    go_enter Tryz.func125, Tryz.ntmps125
    go_wp2_with fail
    refine HREC.out.mono ?_; rintro e w1 ⟨A, c, rfl, ho, hB⟩
    have HO := Lib.hid ho
    have HB := Lib.hid hB
    clear ho hB
    go_wp2_with (at_builtin; refine append_int (W := w1) w.heap.size rfl _ _ 89 5 .u8 1 rfl Tryz.underlying89 info_u8n (by omega) (.slice A k c) k (be q k) r rfl rfl HO.out HB.out.size (by omega) ?_; intro v2 w2 ho2 hk2 hb2; obtain ⟨A2, c2, rfl, -, -, -⟩ := own_slice ho2; have HO2 := Lib.hid ho2; have HK2 := Lib.hid hk2; clear ho2 hk2 hb2)
    go_ret
    exact ⟨A2, c2, rfl, HO2.out, below_keeps HB.out HK2.out (Nat.le_refl _) (fun i hi => (own_base HO.out i hi).1)⟩
theorem rrow_any (k : Nat) (n kk : Int) (w : World) (hk : kk.toNat = k) (h8 : kk ≤ 8) (h0 : 0 ≤ n) (h1 : n ≤ 18446744073709551615) :
    Calls Tryz.prog 125 #[.int .u64 n, .int .i64 kk] w fun e w' => ∃ A c, e = .returned (.slice A k c) ∧ Rd w' .u8 A k (be n k) ∧ (A = none → c = 0) ∧ Below w.heap.size w w' := by
  refine (rrow_own k n kk w hk h8 h0 h1).mono ?_
  rintro e w' ⟨A, c, rfl, ho, hB⟩
  obtain ⟨A', c', he, hr, hz, _⟩ := rd_own_any ho (be_byte k n) (by omega)
  injection he with e1 _ e2
  subst e1; subst e2
  exact ⟨_, _, rfl, hr, hz, hB⟩

set_option maxRecDepth 100000 in
set_option maxHeartbeats 1000000 in
theorem rput_own (A0 : Option Addr) (n0 c0 : Nat) (bs : List Int) (n k : Int) (w : World) (r0 : Rd w .u8 A0 n0 bs) (z0 : A0 = none → c0 = 0) (hn : n0 ≤ 4194304) (h0 : 0 ≤ n) (h1 : n ≤ 18446744073709551615) :
    Calls Tryz.prog 89 #[.slice A0 n0 c0, .int .u64 n, .int .i64 k] w (NewO w (bs ++ be n (putMany k))) := by
  have FIN : ∀ (kk : Int) (m : Nat), kk.toNat = m → kk ≤ 8 → Calls Tryz.prog 125 #[.int .u64 n, .int .i64 kk] w fun e w1 => ∃ A c, e = .returned (.slice A m c) ∧ Below w.heap.size w w1 ∧ Calls Tryz.prog 124 #[.slice A0 n0 c0, .slice A m c] w1 (NewO w (bs ++ be n m)) := fun kk m hm h8 => by
    refine (rrow_any m n kk w hm h8 h0 h1).mono ?_
    rintro e w1 ⟨A, c, rfl, hr, hz, hB⟩
    exact ⟨A, c, rfl, hB, (behind_own A0 n0 c0 bs A m c (be n m) w1 (r0.below hB) z0 hr hz (by omega)).mono fun e w' h => h.before hB⟩
  by_cases k8 : 8 < k
  · have e1 : putMany k = 8 := by unfold putMany; omega
    have HF := Lib.hid (FIN 8 8 rfl (by omega))
    rw [e1]
    clear FIN e1
    go_enter Tryz.func89, Tryz.ntmps89
    go_wp2_with fail
    refine HF.out.mono ?_; rintro e w1 ⟨A, c, rfl, hB, hb⟩
    have HBH := Lib.hid hb
    clear hb hB
    go_wp2_with fail
    refine HBH.out.mono ?_; rintro e w2 ⟨A2, c2, m2, hm2, rfl, ho2, hB2⟩
    have H2 := Lib.hid (And.intro ho2 hB2)
    have HM2 := Lib.hid hm2
    clear ho2 hB2 hm2
    go_wp2_with fail
    go_ret
    exact ⟨A2, c2, m2, HM2.out, rfl, H2.out.1, H2.out.2⟩
  by_cases k8e : k = 8
  · subst k8e
    have e1 : putMany 8 = 8 := by unfold putMany; omega
    have HF := Lib.hid (FIN 8 8 rfl (by omega))
    rw [e1]
    clear FIN e1 k8
    go_enter Tryz.func89, Tryz.ntmps89
    go_wp2_with fail
    refine HF.out.mono ?_; rintro e w1 ⟨A, c, rfl, hB, hb⟩
    have HBH := Lib.hid hb
    clear hb hB
    go_wp2_with fail
    refine HBH.out.mono ?_; rintro e w2 ⟨A2, c2, m2, hm2, rfl, ho2, hB2⟩
    have H2 := Lib.hid (And.intro ho2 hB2)
    have HM2 := Lib.hid hm2
    clear ho2 hB2 hm2
    go_wp2_with fail
    go_ret
    exact ⟨A2, c2, m2, HM2.out, rfl, H2.out.1, H2.out.2⟩
  · have e1 : putMany k = k.toNat := by unfold putMany; omega
    have k9 : k ≤ 8 := by omega
    have HF := Lib.hid (FIN k k.toNat rfl k9)
    rw [e1]
    have k7 : k < 8 := by omega
    clear FIN e1
    go_enter Tryz.func89, Tryz.ntmps89
    go_wp2_with fail
    refine HF.out.mono ?_; rintro e w1 ⟨A, c, rfl, hB, hb⟩
    have HBH := Lib.hid hb
    clear hb hB
    go_wp2_with fail
    refine HBH.out.mono ?_; rintro e w2 ⟨A2, c2, m2, hm2, rfl, ho2, hB2⟩
    have H2 := Lib.hid (And.intro ho2 hB2)
    have HM2 := Lib.hid hm2
    clear ho2 hB2 hm2
    go_wp2_with fail
    go_ret
    exact ⟨A2, c2, m2, HM2.out, rfl, H2.out.1, H2.out.2⟩

theorem rput_any (A0 : Option Addr) (n0 c0 : Nat) (bs : List Int) (n k : Int) (w : World) (r0 : Rd w .u8 A0 n0 bs) (z0 : A0 = none → c0 = 0) (hn : n0 ≤ 4194304) (h0 : 0 ≤ n) (h1 : n ≤ 18446744073709551615) :
    Calls Tryz.prog 89 #[.slice A0 n0 c0, .int .u64 n, .int .i64 k] w (NewB w (bs ++ be n (putMany k))) :=
  (rput_own A0 n0 c0 bs n k w r0 z0 hn h0 h1).mono fun e w' h => h.newB (fun x hx => by
    rcases List.mem_append.1 hx with h | h
    · exact rd_bytes r0 x h
    · exact be_byte _ _ x h) (by have := r0.len; rw [List.length_append, be_length]; unfold putMany; omega)

end Go.Proofs.YtgecfcdafbedaaaGreatDoor
