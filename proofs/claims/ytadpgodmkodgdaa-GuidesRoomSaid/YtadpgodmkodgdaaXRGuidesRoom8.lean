/- The walk over SHA-256: a block's numbers behind the sixteenth; The walk over SHA-256: all of a block's numbers, one behind the other; the function that tells them. -/
import Derived.Test.YtadpgodmkodgdaaXRGuidesRoom7
namespace Go.Proofs.Ytadpgodmkodgdaa
open Go.RowKit
set_option linter.unusedSimpArgs false
set_option linter.unusedVariables false

set_option maxRecDepth 100000 in
set_option maxHeartbeats 4000000 in
theorem next_high (N T B X o : Nat) (bs l : List Int) (t : Nat) (w : World) (h : NumAt w N T B X o bs l t) (ht : 16 ≤ t) (ht2 : t < 1000) (hNT : N ≠ T) :
    Calls Try.prog 80 #[.pointer (some ⟨N, 0, none⟩), .pointer (some ⟨T, 0, none⟩), .pointer (some ⟨B, 0, none⟩)] w fun e w' =>
      e = .returned (.int .u32 (nextV bs l t)) ∧ Blk w' N 151 ((l.set (t % 16) (nextV bs l t)).map (Value.int .u32)) ∧ Blk w' T 3 [.int .i64 ((t + 1 : Nat) : Int)] ∧ Keeps (fun i => i = N ∨ i = T) w w' := by
  have c1 := h.cnt.cell 0
  simp only [List.getElem?_cons_zero] at c1
  have i0 : (0 : Int) ≤ (t : Int) := by omega
  have i1 : ¬ (t : Int) < 16 := by omega
  have i1' : ¬ t < 16 := by omega
  have hl := h.len
  have hw1 : IntKind.i64.wrap ((t : Int) + 1) = (t : Int) + 1 := IntWalk.i64_in _ (by omega)
  have hw14 : IntKind.i64.wrap ((t : Int) + 14) = (t : Int) + 14 := IntWalk.i64_in _ (by omega)
  have hw9 : IntKind.i64.wrap ((t : Int) + 9) = (t : Int) + 9 := IntWalk.i64_in _ (by omega)
  obtain ⟨a, ha⟩ : ∃ a, t % 16 = a := ⟨_, rfl⟩
  obtain ⟨b, hb⟩ : ∃ b, (t + 1) % 16 = b := ⟨_, rfl⟩
  obtain ⟨c, hc⟩ : ∃ c, (t + 14) % 16 = c := ⟨_, rfl⟩
  obtain ⟨d, hd⟩ : ∃ d, (t + 9) % 16 = d := ⟨_, rfl⟩
  have m0 : Int.tmod (t : Int) 16 = (a : Int) := by rw [Int.tmod_eq_emod_of_nonneg (by omega)]; omega
  have m1 : Int.tmod ((t : Int) + 1) 16 = (b : Int) := by rw [Int.tmod_eq_emod_of_nonneg (by omega)]; omega
  have m14 : Int.tmod ((t : Int) + 14) 16 = (c : Int) := by rw [Int.tmod_eq_emod_of_nonneg (by omega)]; omega
  have m9 : Int.tmod ((t : Int) + 9) 16 = (d : Int) := by rw [Int.tmod_eq_emod_of_nonneg (by omega)]; omega
  have a1 : (a : Int) < 16 := by omega
  have b1 : (b : Int) < 16 := by omega
  have e1 : (c : Int) < 16 := by omega
  have f1 : (d : Int) < 16 := by omega
  have a0 : (0 : Int) ≤ (a : Int) := by omega
  have b0 : (0 : Int) ≤ (b : Int) := by omega
  have e0 : (0 : Int) ≤ (c : Int) := by omega
  have f0 : (0 : Int) ≤ (d : Int) := by omega
  have had : ¬ a = d := by omega
  have hda : ¬ d = a := by omega
  have cellOf : ∀ {W : World} {xs : List Int} (j : Nat), Blk W N 151 (xs.map (Value.int .u32)) → j < xs.length → W.cell? ⟨N, j, none⟩ = some (.int .u32 (xs.getD j 0)) := fun {W xs} j hk hj => (hk.cell j).trans (by
    rw [List.getElem?_map, List.getElem?_eq_getElem hj, List.getD_eq_getElem?_getD, List.getElem?_eq_getElem hj]; rfl)
  go_enter Try.func80, Try.ntmps80
  go_wp2_with fail
  have hb1 : Below w.heap.size w w.drew := ⟨rfl, rfl, rfl, Nat.le_refl _, fun _ _ => rfl⟩
  have HN1 : Hid (Blk w.drew N 151 (l.map (Value.int .u32))) := Lib.hid h.row.drew
  have HT1 : Hid (Blk w.drew T 3 [.int .i64 (t : Int)]) := Lib.hid h.cnt.drew
  have d1 : w.drew.cell? ⟨T, 0, none⟩ = some (.int .i64 (t : Int)) := HT1.out.cell 0
  obtain ⟨y, hy⟩ : ∃ y, l.getD b 0 = y := ⟨_, rfl⟩
  obtain ⟨z, hz⟩ : ∃ z, l.getD c 0 = z := ⟨_, rfl⟩
  have d2 : w.drew.cell? ⟨N, b, none⟩ = some (.int .u32 y) := by rw [← hy]; exact cellOf b HN1.out (by omega)
  have d3 : w.drew.cell? ⟨N, c, none⟩ = some (.int .u32 z) := by rw [← hz]; exact cellOf c HN1.out (by omega)
  refine wp_region_noPanic ?_
  refine wp_region_held_drew (S := (fun w' => w'.cell? ⟨T, 0, none⟩ = some (.int .i64 (t : Int)) ∧ w'.cell? ⟨N, b, none⟩ = some (.int .u32 y) ∧ w'.cell? ⟨N, c, none⟩ = some (.int .u32 z))) (by kernel_rfl) ?_ (fun hHeld => ?_)
  · ((try dsimp only); refine ⟨?_, ?_, ?_⟩ <;> (first | assumption | (go_keep; done)))
  refine wpAnyH_take (i := 0) (oi := ⟨some 28, _, _, _, _, _⟩) (v := ?_) rfl (by kernel_rfl) (by kernel_rfl) (by kernel_rfl) (fun _ _ _ h => False.elim h) (Or.inl ⟨by rfl, ?_⟩) (by assumption) ?_
  rotate_left
  · intro w hSw
    (try dsimp only at hSw)
    go_simp
    all_goals with_reducible rfl
  (try simp only [Act.put, List.setIfInBounds_toArray, List.set_cons_zero, List.set_cons_succ])
  refine wpAnyH_take (i := 1) (oi := ⟨some 29, _, _, _, _, _⟩) (v := ?_) rfl (by kernel_rfl) (by kernel_rfl) (by kernel_rfl) (fun _ _ _ h => False.elim h) (Or.inl ⟨by rfl, ?_⟩) (by assumption) ?_
  rotate_left
  · intro w hSw
    (try dsimp only at hSw)
    go_simp
    all_goals with_reducible rfl
  (try simp only [Act.put, List.setIfInBounds_toArray, List.set_cons_zero, List.set_cons_succ])
  refine wpAnyH_take (i := 2) (oi := ⟨some 30, _, _, _, _, _⟩) (v := ?_) rfl (by kernel_rfl) (by kernel_rfl) (by kernel_rfl) (fun _ _ _ h => False.elim h) (Or.inl ⟨by rfl, ?_⟩) (by assumption) ?_
  rotate_left
  · intro w hSw
    (try dsimp only at hSw)
    go_simp
    all_goals with_reducible rfl
  (try simp only [Act.put, List.setIfInBounds_toArray, List.set_cons_zero, List.set_cons_succ])
  refine wpAnyH_take (i := 3) (oi := ⟨some 31, _, _, _, _, _⟩) (v := ?_) rfl (by kernel_rfl) (by kernel_rfl) (by kernel_rfl) (fun _ _ _ h => False.elim h) (Or.inl ⟨by rfl, ?_⟩) (by assumption) ?_
  rotate_left
  · intro w hSw
    (try dsimp only at hSw)
    go_simp
    all_goals with_reducible rfl
  (try simp only [Act.put, List.setIfInBounds_toArray, List.set_cons_zero, List.set_cons_succ])
  refine wpAnyH_take (i := 4) (oi := ⟨some 32, _, _, _, _, _⟩) (v := ?_) rfl (by kernel_rfl) (by kernel_rfl) (by kernel_rfl) (fun _ _ _ h => False.elim h) (Or.inl ⟨by rfl, ?_⟩) (by assumption) ?_
  rotate_left
  · intro w hSw
    (try dsimp only at hSw)
    go_simp
    all_goals with_reducible rfl
  (try simp only [Act.put, List.setIfInBounds_toArray, List.set_cons_zero, List.set_cons_succ])
  refine wpAnyH_take (i := 5) (oi := ⟨some 33, _, _, _, _, _⟩) (v := ?_) rfl (by kernel_rfl) (by kernel_rfl) (by kernel_rfl) (fun _ _ _ h => False.elim h) (Or.inl ⟨by rfl, ?_⟩) (by assumption) ?_
  rotate_left
  · intro w hSw
    (try dsimp only at hSw)
    go_simp
    all_goals with_reducible rfl
  (try simp only [Act.put, List.setIfInBounds_toArray, List.set_cons_zero, List.set_cons_succ])
  refine wpAnyH_take (i := 6) (oi := ⟨some 34, _, _, _, _, _⟩) (v := ?_) rfl (by kernel_rfl) (by kernel_rfl) (by kernel_rfl) (fun _ _ _ h => False.elim h) (Or.inl ⟨by rfl, ?_⟩) (by assumption) ?_
  rotate_left
  · intro w hSw
    (try dsimp only at hSw)
    go_simp
    all_goals with_reducible rfl
  (try simp only [Act.put, List.setIfInBounds_toArray, List.set_cons_zero, List.set_cons_succ])
  refine wpAnyH_take (i := 7) (oi := ⟨some 35, _, _, _, _, _⟩) (v := ?_) rfl (by kernel_rfl) (by kernel_rfl) (by kernel_rfl) (fun _ _ _ h => False.elim h) (Or.inl ⟨by rfl, ?_⟩) (by assumption) ?_
  rotate_left
  · intro w hSw
    (try dsimp only at hSw)
    go_simp
    all_goals with_reducible rfl
  (try simp only [Act.put, List.setIfInBounds_toArray, List.set_cons_zero, List.set_cons_succ])
  refine wpAnyH_take (i := 8) (oi := ⟨some 36, _, _, _, _, _⟩) (v := ?_) rfl (by kernel_rfl) (by kernel_rfl) (by kernel_rfl) (fun _ _ _ h => False.elim h) (Or.inl ⟨by rfl, ?_⟩) (by assumption) ?_
  rotate_left
  · intro w hSw
    (try dsimp only at hSw)
    go_simp
    all_goals with_reducible rfl
  (try simp only [Act.put, List.setIfInBounds_toArray, List.set_cons_zero, List.set_cons_succ])
  refine wpAnyH_take (i := 9) (oi := ⟨some 37, _, _, _, _, _⟩) (v := ?_) rfl (by kernel_rfl) (by kernel_rfl) (by kernel_rfl) (fun _ _ _ h => False.elim h) (Or.inl ⟨by rfl, ?_⟩) (by assumption) ?_
  rotate_left
  · intro w hSw
    (try dsimp only at hSw)
    go_simp
    all_goals with_reducible rfl
  (try simp only [Act.put, List.setIfInBounds_toArray, List.set_cons_zero, List.set_cons_succ])
  refine wpAnyH_take (i := 10) (oi := ⟨some 7, _, _, _, _, _⟩) (v := ?_) rfl (by kernel_rfl) (by kernel_rfl) (by kernel_rfl) (fun _ _ _ h => False.elim h) (Or.inl ⟨by rfl, ?_⟩) (by assumption) ?_
  rotate_left
  · intro w hSw
    (try dsimp only at hSw)
    go_simp
    all_goals with_reducible rfl
  (try simp only [Act.put, List.setIfInBounds_toArray, List.set_cons_zero, List.set_cons_succ])
  refine wpAnyH_take (i := 11) (oi := ⟨some 8, _, _, _, _, _⟩) (v := ?_) rfl (by kernel_rfl) (by kernel_rfl) (by kernel_rfl) (fun _ _ _ h => False.elim h) (Or.inl ⟨by rfl, ?_⟩) (by assumption) ?_
  rotate_left
  · intro w hSw
    (try dsimp only at hSw)
    go_simp
    all_goals with_reducible rfl
  (try simp only [Act.put, List.setIfInBounds_toArray, List.set_cons_zero, List.set_cons_succ])
  refine wpAnyH_done (by kernel_rfl) ?_ _
  refine NoPanic.normal ?_
  clear d1 d2 d3 c1
  obtain ⟨x, hx⟩ : ∃ x, l[a]? = some x := ⟨l[a], List.getElem?_eq_getElem (by omega)⟩
  have HY : Hid (U32 y) := Lib.hid (by rw [← hy, List.getD_eq_getElem?_getD, List.getElem?_eq_getElem (by omega)]; exact h.num _ (List.getElem_mem _))
  have HZ : Hid (U32 z) := Lib.hid (by rw [← hz, List.getD_eq_getElem?_getD, List.getElem?_eq_getElem (by omega)]; exact h.num _ (List.getElem_mem _))
  have HX := Lib.hid hx
  have HYY := Lib.hid hy
  have HZZ := Lib.hid hz
  have HDD := Lib.hid hd
  have HAA := Lib.hid ha
  have HAD := Lib.hid had
  have HL := Lib.hid hl
  have hNT' : ¬ T = N := fun e => hNT e.symm
  have HTN := Lib.hid hNT'
  have HT2 := Lib.hid ht2
  have HBB := Lib.hid hb
  have HCC := Lib.hid hc
  have H16 := Lib.hid ht
  clear hb hc hw1
  clear hx hy hz hd ha had hda hl hNT hNT' i0 i1 i1' m0 m1 m14 m9 a1 b1 e1 f1 a0 b0 e0 f0 hb1 ht ht2 hw14 hw9
  go_upto_region 6 with fail
  rename_i K1 hK1
  refine next_r6 HN1.out HX.out HY.out ?_
  clear HN1
  intro q38 q39 q40 q41 q42 q43 q44 q45 q46 q47 q48 W1 hN' hK'
  refine hK1 _ _ ?_
  clear hK1 K1
  have HN1 := Lib.hid hN'
  have HT1' := Lib.hid (HT1.out.keep hK' (HTN.out))
  have HKK := Lib.hid hK'
  clear hN' hK' HT1
  go_upto_region 7 with fail
  rename_i K1 hK1
  refine next_r7 HN1.out (List.getElem?_set_self (by have := HL.out; have := HAA.out; omega)) HZ.out ?_
  intro q49 q50 q51 q52 q53 q54 q55 q56 q57 q58 q59 W2 hN' hK'
  refine hK1 _ _ ?_
  clear hK1 K1 HN1
  have HN2 := Lib.hid hN'
  have HT2' := Lib.hid (HT1'.out.keep hK' (HTN.out))
  have HKK2 := Lib.hid (HKK.out.trans hK')
  clear hN' hK' HT1' HKK
  rw [List.set_set] at HN2
  go_upto_region 8 with fail
  rename_i K1 hK1
  obtain ⟨p, hp⟩ : ∃ p, l[d]? = some p := ⟨l[d]'(by have := HL.out; have := HDD.out; omega), List.getElem?_eq_getElem (by have := HL.out; have := HDD.out; omega)⟩
  have HP := Lib.hid hp
  refine next_r8 HN2.out HT2'.out (List.getElem?_set_self (by have := HL.out; have := HAA.out; omega)) ((List.getElem?_set_ne HAD.out).trans HP.out) HDD.out HT2.out ?_
  intro q60 q61 q62 q63 q64 q65 q66 q67 q68 q69 W3 hN' hK'
  refine hK1 _ _ ?_
  clear hK1 K1 HN2 hp
  rw [List.set_set] at hN'
  have HT3 := Lib.hid (HT2'.out.keep hK' (HTN.out))
  have HKK3 := Lib.hid (HKK2.out.trans hK')
  have hnv : IntKind.u32.wrap (IntKind.u32.wrap (IntKind.u32.wrap (x + bits BinOp.xor IntKind.u32 (downX y [7, 18]) (y / 8)) + bits BinOp.xor IntKind.u32 (downX z [17, 19]) (z / 1024)) + p) = nextV bs l t := by
    unfold nextV
    rw [if_neg (by have := H16.out; omega), HAA.out, HBB.out, HCC.out, HDD.out, HYY.out, HZZ.out, List.getD_eq_getElem?_getD, HX.out, List.getD_eq_getElem?_getD, HP.out]
    rfl
  rw [hnv] at hN'
  have HN3 := Lib.hid hN'
  clear hN' hK' HT2' HKK2 hnv
  generalize hV : nextV bs l t = V at HN3
  have HV := Lib.hid hV
  clear hV
  have c1 : W3.cell? ⟨T, 0, none⟩ = some (.int .i64 (t : Int)) := HT3.out.cell 0
  have c2 : W3.cell? ⟨N, a, none⟩ = some (.int .u32 V) := (HN3.out.cell a).trans (by rw [List.getElem?_map, List.getElem?_set_self (by have := HL.out; have := HAA.out; omega)]; rfl)
  have f1 := HT3.out.free 0
  have hTN' := HTN.out
  have hw1 : IntKind.i64.wrap ((t : Int) + 1) = (t : Int) + 1 := IntWalk.i64_in _ (by have := HT2.out; omega)
  go_wp2_with fail
  go_ret
  rw [HV.out, HAA.out]
  refine ⟨rfl, ?_, ?_, ?_⟩
  · exact HN3.out.far (p := ⟨T, 0, none⟩) (fun e => HTN.out e.symm) _
  · exact HT3.out.put 0 _
  · exact ((Keeps.trans (b := w.drew) ((Keeps.refl _ w).drew) (HKK3.out.mono (fun i h => Or.inl h)))).setCell (M := fun i => i = N ∨ i = T) (.inl (.inr rfl)) _
end Go.Proofs.Ytadpgodmkodgdaa

namespace Go.Proofs.Ytadpgodmkodgdaa
open Go.RowKit
set_option linter.unusedSimpArgs false
set_option linter.unusedVariables false

/-- The sixteen numbers behind t calls. -/
def ringL (bs : List Int) : Nat → List Int
  | 0 => List.replicate 16 0
  | t + 1 => (ringL bs t).set (t % 16) (nextV bs (ringL bs t) t)
theorem ringL_len (bs : List Int) (t : Nat) : (ringL bs t).length = 16 := by
  induction t with
  | zero => rfl
  | succ t ih => rw [ringL, List.length_set, ih]
theorem u32_wrap (x : Int) : U32 (IntKind.u32.wrap x) := by
  unfold U32
  simp [IntKind.wrap, IntKind.bits, IntKind.signed]
  omega
theorem nextV_u32 (bs l : List Int) (t : Nat) : U32 (nextV bs l t) := by
  unfold nextV
  split
  · exact ⟨by omega, by omega⟩
  · exact u32_wrap _
theorem ringL_u32 (bs : List Int) (t : Nat) : ∀ x ∈ ringL bs t, U32 x := by
  induction t with
  | zero => intro x hx; rw [ringL, List.mem_replicate] at hx; rw [hx.2]; exact ⟨by omega, by omega⟩
  | succ t ih =>
    intro x hx
    rw [ringL] at hx
    rcases List.mem_or_eq_of_mem_set hx with h | h
    · exact ih x h
    · rw [h]; exact nextV_u32 ..
/-- The closure's state behind t calls. -/
structure NumS (w : World) (N T B X o : Nat) (bs : List Int) (t : Nat) : Prop where
  at_ : NumAt w N T B X o bs (ringL bs t) t
  nt : N ≠ T
  nb : N ≠ B
  tb : T ≠ B
  nx : N ≠ X
  tx : T ≠ X
theorem rd_keepX {M : Nat → Prop} {w w' : World} {k : IntKind} {X o n : Nat} {xs : List Int} (h : Rd w k (some ⟨X, o, none⟩) n xs) (hk : Keeps M w w') (hM : ¬ M X) : Rd w' k (some ⟨X, o, none⟩) n xs :=
  ⟨h.len, h.big, h.wf, fun hn => by
    obtain ⟨b, off, e, hb, hc⟩ := h.row hn
    injection e with e
    injection e with e1 e2
    subst e1; subst e2
    exact ⟨X, o, rfl, Nat.lt_of_lt_of_le hb hk.size, fun j hj => (hk.cell (p := ⟨X, o + j, none⟩) hb hM).trans (hc j hj)⟩⟩
theorem NumS.keep {M : Nat → Prop} {w w' : World} {N T B X o : Nat} {bs : List Int} {t : Nat} (h : NumS w N T B X o bs t) (hk : Keeps M w w') (h1 : ¬ M N) (h2 : ¬ M T) (h3 : ¬ M B) (h4 : ¬ M X) : NumS w' N T B X o bs t :=
  ⟨⟨h.at_.row.keep hk h1, h.at_.cnt.keep hk h2, h.at_.box.keep hk h3, rd_keepX h.at_.rd hk h4, h.at_.len, h.at_.num⟩, h.nt, h.nb, h.tb, h.nx, h.tx⟩
def wordV (bs : List Int) (t : Nat) : Int := nextV bs (ringL bs t) t
theorem next_any (N T B X o : Nat) (bs : List Int) (t : Nat) (w : World) (h : NumS w N T B X o bs t) (ht : t < 1000) :
    Calls Try.prog 80 #[.pointer (some ⟨N, 0, none⟩), .pointer (some ⟨T, 0, none⟩), .pointer (some ⟨B, 0, none⟩)] w fun e w' =>
      e = .returned (.int .u32 (wordV bs t)) ∧ NumS w' N T B X o bs (t + 1) ∧ Keeps (fun i => i = N ∨ i = T) w w' := by
  have key : Calls Try.prog 80 #[.pointer (some ⟨N, 0, none⟩), .pointer (some ⟨T, 0, none⟩), .pointer (some ⟨B, 0, none⟩)] w fun e w' =>
      e = .returned (.int .u32 (nextV bs (ringL bs t) t)) ∧ Blk w' N 151 (((ringL bs t).set (t % 16) (nextV bs (ringL bs t) t)).map (Value.int .u32)) ∧ Blk w' T 3 [.int .i64 ((t + 1 : Nat) : Int)] ∧ Keeps (fun i => i = N ∨ i = T) w w' := by
    by_cases hlt : t < 16
    · exact next_low N T B X o bs _ t w h.at_ hlt h.nt
    · exact next_high N T B X o bs _ t w h.at_ (by omega) ht h.nt
  refine key.mono ?_
  rintro e w' ⟨rfl, h1, h2, hk⟩
  exact ⟨rfl, ⟨⟨h1, h2, h.at_.box.keep hk (fun e => by rcases e with e | e; exact h.nb e.symm; exact h.tb e.symm), rd_keepX h.at_.rd hk (fun e => by rcases e with e | e; exact h.nx e.symm; exact h.tx e.symm), ringL_len bs (t + 1), ringL_u32 bs (t + 1)⟩, h.nt, h.nb, h.tb, h.nx, h.tx⟩, hk⟩
def zW16 : List Value := (List.replicate 16 (0 : Int)).map (Value.int .u32)
theorem alloc_w16 (W : World) (o : Oper) (ho : o.op = .alloc 151) (ev : Operand → Value) : (execOp ev o).run Try.prog W = .ok (.value (.pointer (some ⟨W.heap.size, 0, none⟩))) (W.alloc (.cells zW16.toArray 151)) := by
  obtain ⟨d, op, t, p, af, g⟩ := o
  simp only at ho
  subst ho
  kernel_rfl
def NumFn (w : World) (X o : Nat) (bs : List Int) (e : Ending) (w' : World) : Prop :=
  ∃ N T B : Nat, e = .returned (.func (.func 80) #[] #[.pointer (some ⟨N, 0, none⟩), .pointer (some ⟨T, 0, none⟩), .pointer (some ⟨B, 0, none⟩)]) ∧ NumS w' N T B X o bs 0 ∧ w.heap.size ≤ N ∧ w.heap.size ≤ T ∧ w.heap.size ≤ B ∧ Below w.heap.size w w'
set_option maxRecDepth 100000 in
set_option maxHeartbeats 4000000 in
theorem numbers_any (X o : Nat) (bs : List Int) (w : World) (hr : Rd w .u8 (some ⟨X, o, none⟩) 64 bs) :
    Calls Try.prog 76 #[.pointer (some ⟨X, o, none⟩)] w (NumFn w X o bs) := by
  have hX : X < w.heap.size := by
    obtain ⟨b, off, e, hb, _⟩ := hr.row (by omega)
    injection e with e
    injection e with e1 e2
    rw [e1]; exact hb
  have HAL := Lib.hid alloc_w16
  have HZ : Hid (zW16 = (ringL bs 0).map (Value.int .u32)) := Lib.hid rfl
  have HR := Lib.hid hr
  have HX := Lib.hid hX
  generalize zW16 = Z at HAL HZ
  clear hr hX
  go_enter Try.func76, Try.ntmps76
  go_upto_region 1 with fail
  have HB0 : Hid (Below w.heap.size w (w.alloc (Obj.cells #[.pointer (some ⟨X, o, none⟩)] 143))) := Lib.hid ((Below.refl _ w).alloc (Nat.le_refl _) _)
  have HK0 : Hid (Blk (w.alloc (Obj.cells #[.pointer (some ⟨X, o, none⟩)] 143)) w.heap.size 143 [.pointer (some ⟨X, o, none⟩)]) := Lib.hid (Blk.new w 143 _)
  obtain ⟨W0, hW0⟩ : ∃ W, w.alloc (Obj.cells #[.pointer (some ⟨X, o, none⟩)] 143) = W := ⟨_, rfl⟩
  rw [hW0] at HB0 HK0 ⊢
  clear hW0
  refine wp_region_lit ?_
  refine wpList_allocT (o := ⟨some 3, .alloc 151, _, _, _, _⟩) rfl 151 Z (fun W => HAL.out W _ rfl _) ?_; intro w1 HK1 HB1
  obtain ⟨N, hN⟩ : ∃ S, W0.heap.size = S := ⟨_, rfl⟩
  have HN := Lib.hid hN
  rw [hN] at HK1 ⊢
  clear hN
  have HB2 := Lib.hid (HB0.out.trans (HB1.out.mono HB0.out.size))
  go_upto_region 2 with fail
  go_wp2_with fail
  go_ret
  have hs0 := HB0.out.size
  have hlt0 := HK0.out.lt
  have hn := HN.out
  have hlt1 := HK1.out.lt
  have hx := HX.out
  have hk : Keeps (fun _ => False) w1 (w1.alloc (.cells #[.int .i64 0] 3)) := (Keeps.refl _ _).alloc _
  have h1 : Blk (w1.alloc (.cells #[.int .i64 0] 3)) w1.heap.size 3 [.int .i64 0] := Blk.new w1 3 [.int .i64 0]
  have h2 := HK1.out
  rw [HZ.out] at h2
  refine ⟨N, w1.heap.size, w.heap.size, rfl, ⟨⟨h2.keep hk (fun h => h), h1, (HK0.out.below HB1.out (by omega)).keep hk (fun h => h), (HR.out.below HB2.out).keep hk (fun _ _ h => h), ringL_len _ _, ringL_u32 _ _⟩, by omega, by omega, by omega, by omega, by omega⟩, by omega, by omega, Nat.le_refl _, ?_⟩
  exact below_keeps HB2.out hk (Nat.le_refl _) (fun _ h => h.elim)
end Go.Proofs.Ytadpgodmkodgdaa
