/- The law NumsTold, a part of its walk. -/
import Derived.Test.YtpoljlmkeldbpaaNToldP
namespace Go.Proofs.Ytpoljlmkeldbpaa
open Go.RowKit
set_option linter.unusedSimpArgs false
set_option linter.unusedVariables false
attribute [local go_sem ↓] Go.wp_at_zero Go.wp_at_succ

set_option maxRecDepth 100000 in
set_option maxHeartbeats 2000000 in
theorem told_late (A0 : Option Addr) (n0 c0 : Nat) (x0 : List Int) (A1 : Option Addr) (n1 c1 : Nat) (x1 : List Int) (w : World) (r0 : Rd w .u8 A0 n0 x0) (l0 : n0 ≤ c0) (e0 : A0 = none → c0 = 0) (m0 : c0 ≤ 140737488351232)
    (r1 : Rd w .u8 A1 n1 x1) (l1 : n1 ≤ c1) (e1 : A1 = none → c1 = 0) (m1 : c1 ≤ 140737488351232) (hle : n0 + n1 ≤ 1048576) (hnone : gotB x0 = none) (h4 : 4 ≤ n0) :
    Calls Try.prog 6 #[.slice A0 n0 c0, .slice A1 n1 c1] w fun e w' => e = .returned (.bool true) ∧ Below w.heap.size w w' := by
  have hbig := r0.big
  have hbig1 := r1.big
  have hlx := r0.len
  have hby := rd_bytes r0
  have hby1 := rd_bytes r1
  have hlen4 : (be n0 4 ++ x0).length = n0 + 4 := by rw [List.length_append, be_length, hlx]; omega
  have hbytes4 : ∀ x ∈ be n0 4 ++ x0, 0 ≤ x ∧ x ≤ 255 := fun x hx => by
    rcases List.mem_append.1 hx with h | h
    · exact be_byte 4 _ x h
    · exact hby x h
  have hbytes6 : ∀ x ∈ be n0 4 ++ x0 ++ x1, 0 ≤ x ∧ x ≤ 255 := fun x hx => by
    rcases List.mem_append.1 hx with h | h
    · exact hbytes4 x h
    · exact hby1 x h
  have hgot : gotB (be n0 4 ++ x0 ++ x1) = some x0 := by have := gotB_put x0 x1 (by omega) hby; rwa [hlx] at this
  have hless : gotB ((be n0 4 ++ x0).take (n0 + 3)) = none := by have := gotB_less x0 (by omega); rwa [hlx] at this
  have hbe : ∀ W : World, Calls Try.prog 10 #[.slice (some ⟨W.heap.size, 0, none⟩) 2 2] (W.alloc (.cells #[.int .i64 n0, .int .i64 n1] 3)) fun e w' => e = .returned (.bool false) ∧ W.alloc (.cells #[.int .i64 n0, .int .i64 n1] 3) = w' := fun W => by
    have hk := Blk.new W 3 [.int .i64 n0, .int .i64 n1]
    have := beyond2_any W.heap.size n0 n1 2 _ (by omega) (by omega) (hk.cell 0) (hk.cell 1)
    rwa [decide_eq_false (by omega)] at this
  have hpb : ∀ W : World, Below w.heap.size w W → Calls Try.prog 15 #[.slice none 0 0, .slice A0 n0 c0] W (MadeIn W (be n0 4 ++ x0)) := fun W hW => by
    have := putbytes_any none 0 0 [] A0 n0 c0 x0 W (rd_nil W .u8) (by omega) (r0.below hW) e0 (by omega) (by omega)
    rwa [List.nil_append] at this
  have HLEN4 := Lib.hid hlen4
  have HBY4 := Lib.hid hbytes4
  have HBY6 := Lib.hid hbytes6
  have HGOT := Lib.hid hgot
  have HLESS := Lib.hid hless
  have HB := Lib.hid hbe
  have HPB := Lib.hid hpb
  clear hlx hby hby1 hlen4 hbytes4 hbytes6 hgot hless hbe hpb

  obtain ⟨b, off, rfl, hbw, hc⟩ := r0.row (by omega)
  have hc0 := hc 0 (by omega)
  have hc1 := hc 1 (by omega)
  have hc2 := hc 2 (by omega)
  have hc3 := hc 3 (by omega)
  clear hc
  have hb0 := wf_bounds_u8 (r0.mem (j := 0) (by omega))
  have hb1 := wf_bounds_u8 (r0.mem (j := 1) (by omega))
  have hb2 := wf_bounds_u8 (r0.mem (j := 2) (by omega))
  have hb3 := wf_bounds_u8 (r0.mem (j := 3) (by omega))
  have htold : (n0 : Int) - 4 < 16777216 * (x0[0]?.getD 0) + 65536 * (x0[1]?.getD 0) + 256 * (x0[2]?.getD 0) + (x0[3]?.getD 0) := by
    have hl := r0.len
    rcases x0 with _ | ⟨y0, _ | ⟨y1, _ | ⟨y2, _ | ⟨y3, l⟩⟩⟩⟩
    · simp at hl; omega
    · simp at hl; omega
    · simp at hl; omega
    · simp at hl; omega
    · unfold gotB at hnone
      rw [if_neg (by omega), told4] at hnone
      split at hnone
      · simp; omega
      · cases hnone
  have hgb : ∀ W, Below w.heap.size w W → Calls Try.prog 14 #[.slice (some ⟨b, off, none⟩) n0 c0] W fun e w' => e = .returned (.tuple #[.slice none 0 0, .int .i64 0, .int .i64 5]) ∧ Below W.heap.size W w' := fun W hW =>
    (getbytes_any _ n0 c0 x0 W (r0.below hW) l0).mono fun e w' h => by
      rcases h with ⟨_, he, hB⟩ | ⟨l, g, h, _⟩
      · exact ⟨he, hB⟩
      · rw [hnone] at h; cases h
  have HG := Lib.hid hgb
  have HT := Lib.hid htold
  clear hgb htold hnone
  obtain ⟨y0, hy0⟩ : ∃ y, x0[0]?.getD 0 = y := ⟨_, rfl⟩
  obtain ⟨y1, hy1⟩ : ∃ y, x0[1]?.getD 0 = y := ⟨_, rfl⟩
  obtain ⟨y2, hy2⟩ : ∃ y, x0[2]?.getD 0 = y := ⟨_, rfl⟩
  obtain ⟨y3, hy3⟩ : ∃ y, x0[3]?.getD 0 = y := ⟨_, rfl⟩
  rw [hy0] at hc0 hb0
  rw [hy1] at hc1 hb1
  rw [hy2] at hc2 hb2
  rw [hy3] at hc3 hb3
  rw [hy0, hy1, hy2, hy3] at HT
  clear hy0 hy1 hy2 hy3

  have HR0 := Lib.hid r0
  have HR1 := Lib.hid r1
  clear r0 r1
  go_enter Try.func6, Try.ntmps6
  go_wp2_with fail
  refine (alive_true _).mono ?_
  rintro e w1 ⟨rfl, hB1⟩
  go_wp2_with fail
  refine (HB.out w1).mono ?_
  rintro e w2 ⟨rfl, rfl⟩
  have hB2 := hB1.alloc hB1.size (.cells #[.int .i64 n0, .int .i64 n1] 3)
  generalize w1.alloc (.cells #[.int .i64 n0, .int .i64 n1] 3) = w2 at *
  go_wp2_with fail

  refine (HG.out w2 hB2).mono ?_
  rintro e w3 ⟨rfl, hB3⟩
  have hB13 := hB2.trans (hB3.mono hB2.size)
  have z0 := (hB13.cell (p := ⟨b, off + 0, none⟩) hbw).trans hc0
  have z1 := (hB13.cell (p := ⟨b, off + 1, none⟩) hbw).trans hc1
  have z2 := (hB13.cell (p := ⟨b, off + 2, none⟩) hbw).trans hc2
  have z3 := (hB13.cell (p := ⟨b, off + 3, none⟩) hbw).trans hc3
  rw [Nat.add_zero] at z0
  clear hc0 hc1 hc2 hc3 hB1 hB2 hB3
  have k0n : 0 < n0 := by omega
  have k0 : (0 : Int) < (n0 : Int) := by omega
  have k1 : (1 : Int) < (n0 : Int) := by omega
  have k2 : (2 : Int) < (n0 : Int) := by omega
  have k3 : (3 : Int) < (n0 : Int) := by omega
  have k4 : (4 : Int) ≤ (n0 : Int) := by omega
  have s4 : IntKind.i64.wrap ((n0 : Int) - 4) = (n0 : Int) - 4 := IntWalk.i64_in _ (by omega)
  have u4 : IntKind.u64.wrap ((n0 : Int) - 4) = (n0 : Int) - 4 := IntWalk.u64_in _ (by omega)
  have a0 : IntKind.u64.wrap (y0 * 16777216) = y0 * 16777216 := IntWalk.u64_in _ (by omega)
  have a1 : IntKind.u64.wrap (y1 * 65536) = y1 * 65536 := IntWalk.u64_in _ (by omega)
  have a2 : IntKind.u64.wrap (y2 * 256) = y2 * 256 := IntWalk.u64_in _ (by omega)
  have o1 : bits .or .u64 (y0 * 16777216) (y1 * 65536) = y0 * 16777216 + y1 * 65536 := or_add _ _ 24 (by omega) (by omega) (by omega) (by omega) (by omega) (by omega)
  have o2 : bits .or .u64 (y0 * 16777216 + y1 * 65536) (y2 * 256) = y0 * 16777216 + y1 * 65536 + y2 * 256 := or_add _ _ 16 (by omega) (by omega) (by omega) (by omega) (by omega) (by omega)
  have o3 : bits .or .u64 (y0 * 16777216 + y1 * 65536 + y2 * 256) y3 = y0 * 16777216 + y1 * 65536 + y2 * 256 + y3 := or_add _ _ 8 (by omega) (by omega) (by omega) (by omega) (by omega) (by omega)
  have hdec : decide (y0 * 16777216 + y1 * 65536 + y2 * 256 + y3 ≤ (n0 : Int) - 4) = false := decide_eq_false (by have := HT.out; omega)
  have v0 : IntKind.u64.wrap y0 = y0 := IntWalk.u64_in _ (by omega)
  have v1 : IntKind.u64.wrap y1 = y1 := IntWalk.u64_in _ (by omega)
  have v2 : IntKind.u64.wrap y2 = y2 := IntWalk.u64_in _ (by omega)
  have v3 : IntKind.u64.wrap y3 = y3 := IntWalk.u64_in _ (by omega)
  go_wp2_with fail
  go_region_held3 (fun w' => w'.cell? ⟨b, off, none⟩ = some (.int .u8 y0) ∧ w'.cell? ⟨b, off + 1, none⟩ = some (.int .u8 y1) ∧ w'.cell? ⟨b, off + 2, none⟩ = some (.int .u8 y2) ∧ w'.cell? ⟨b, off + 3, none⟩ = some (.int .u8 y3)) (first | go_keep | assumption) (first | fail)
  have hBq : Below w.heap.size w w3.drew := below_drawn hB13 ⟨1, rfl⟩
  clear z0 z1 z2 z3 k0n k0 k1 k2 k3 k4 s4 u4 a0 a1 a2 o1 o2 o3 hdec hb0 hb1 hb2 hb3 hB13 v0 v1 v2 v3

  generalize w3.drew = wq at *
  go_wp2_with fail
  refine (HPB.out wq hBq).mono ?_
  rintro e w4 ⟨g4, cells4, hg4, rfl, hk4, ht4, hB4⟩
  rw [HLEN4.out] at ht4 ⊢
  have hBw4 := hBq.trans (hB4.mono hBq.size)
  have HR4 := Lib.hid (rd_of_in hk4 ht4 HBY4.out HLEN4.out (by omega))
  have HKA := Lib.hid (hBw4)
  have HR14 := Lib.hid (HR1.out.below hBw4)
  have HG4 := Lib.hid hk4.lt
  clear hk4 ht4 hB4 hBw4 hBq
  go_wp2_with (first
    | (at_builtin; refine append_bytes w.heap.size rfl _ _ rfl (.slice none 0 0) 0 [] rfl (some ⟨g4, 0, none⟩) (n0 + 4) (n0 + 4) _ rfl HR4.out (by simp) (own_nil _ _ _ _) HKA.out.size (by omega) ?_
       intro v5 w5 ho5 hg5 hn5
       rw [Nat.zero_add, List.nil_append] at ho5
       have HO5 := ho5
       have HB5 := Lib.hid (grown_below HKA.out hg5 (own_nil _ w.heap.size 5 1) (Nat.le_refl _))
       have HR15 := Lib.hid (HR1.out.below HB5.out)
       have HR45 := Lib.hid (HR4.out.keep (M := fun _ => False) (Keeps.grown (Keeps.refl _ _) hg5 (fun k hk => by cases hk)) (fun _ _ h => h))
       have HN5 := Lib.hid hn5
       clear ho5 hg5 hn5)
    | (at_builtin; refine append_bytes w.heap.size rfl _ _ rfl v5 (n0 + 4) _ rfl A1 n1 c1 x1 rfl HR15.out e1 HO5.out HB5.out.size (by omega) ?_
       intro v6 w6 ho6 hg6 hn6))
  obtain ⟨g6, c6, rfl, hc6, hgb6, hgl6⟩ := own_some ho6.out (by omega)
  have hB6 := grown_below HB5.out hg6 HO5.out (Nat.le_refl _)
  have hr6 := rd_own ho6.out HBY6.out (by omega)
  obtain ⟨zs, hzs⟩ : ∃ zs, be n0 4 ++ x0 = zs := ⟨_, rfl⟩
  have hr46 : Rd w6 .u8 (some ⟨g4, 0, none⟩) (n0 + 4) (be n0 4 ++ x0) := by
    have h45 := HR45.out
    refine ⟨h45.len, h45.big, h45.wf, fun h0 => ?_⟩
    obtain ⟨b', o', e, hb', hc'⟩ := h45.row h0
    refine ⟨b', o', e, Nat.lt_of_lt_of_le hb' hg6.size, fun j hj => ?_⟩
    refine (World.cell?_of_block (hg6.block b' hb' (fun e2 => ?_))).trans (hc' j hj)
    have e' : b' = g4 := by injection e with e; injection e with e; exact e.symm
    rcases HN5.out with h | h
    · rw [h] at e2; simp [Value.ownBlock] at e2
    · rw [h] at e2; injection e2 with e2; have := HG4.out; omega
  have HG6 := Lib.hid (gets_any hr6 hc6)
  have hr47 : ∀ W, Below w6.heap.size w6 W → Calls Try.prog 14 #[.slice (some ⟨g4, 0, none⟩) (n0 + 3) (n0 + 4)] W fun e w' => e = .returned (.tuple #[.slice none 0 0, .int .i64 0, .int .i64 5]) ∧ Below W.heap.size W w' := fun W hW => by
    have r := (hr46.below hW).sub 0 (n0 + 3) (by omega)
    rw [List.drop_zero] at r
    refine (gets_any r (by omega)).mono fun e w' h => ?_
    rcases h with ⟨_, he, hB⟩ | ⟨l, g, h, _⟩
    · exact ⟨he, hB⟩
    · rw [HLESS.out] at h; cases h
  have HG7 := Lib.hid hr47
  have HB6 := Lib.hid hB6
  clear ho6 hg6 hn6 hr6 hr46 hr47 HR45 HO5 HR15 HN5 hB6 hzs
  refine (HG6.out).mono ?_
  rintro e w7 hgot7
  rcases hgot7 with ⟨h, _⟩ | ⟨l7, g7, h, hg7, rfl, hk7, hB7⟩
  · rw [HGOT.out] at h; cases h
  rw [HGOT.out] at h
  injection h with h
  subst h
  have hBw7 := HB6.out.trans (hB7.mono HB6.out.size)
  have hl7 := HR0.out.len
  have hlq : (x0.length : Int) = (n0 : Int) := by omega
  rw [hl7]
  have q3 : ((n0 + 4 : Nat) : Int) - 1 = ((n0 + 3 : Nat) : Int) := by omega
  have HK7 := Lib.hid hk7
  have HL7 := Lib.hid hl7
  clear hk7 hlq hl7
  go_wp2_with fail
  refine (HG7.out w7 hB7).mono ?_
  rintro e w8 ⟨rfl, hB8⟩
  have hBw8 := hBw7.trans (hB8.mono hBw7.size)
  have hk8 := HK7.out.below hB8 HK7.out.lt
  have hsame := same_any (some ⟨g7, 0, none⟩) n0 n0 x0 _ n0 c0 x0 w8 (rd_of_blk hk8 (rd_bytes HR0.out) HL7.out (by omega)) (HR0.out.below hBw8)
  rw [decide_eq_true rfl] at hsame
  have HS := Lib.hid hsame
  clear hsame hk8 HK7
  go_wp2_with fail
  refine HS.out.mono ?_
  rintro e w9 ⟨rfl, q9, rfl⟩
  go_wp2_with fail
  go_ret
  exact ⟨rfl, below_drawn hBw8 ⟨q9, rfl⟩⟩
end Go.Proofs.Ytpoljlmkeldbpaa
