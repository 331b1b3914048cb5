/- The walks over macs.Same, covers' below, Guide; The walks over covers.Guide, seal.is, Guided. -/
import Derived.Test.YtadpgodmkodgdaaXRGuidesRoom32
namespace Go.Proofs.Ytadpgodmkodgdaa
open Go.RowKit
set_option linter.unusedSimpArgs false
set_option linter.unusedVariables false

theorem wrap_u8 (k : Nat) (h : k < 256) : IntKind.u8.wrap (k : Int) = (k : Int) := by
  simp [IntKind.wrap, IntKind.bits, IntKind.signed]
  omega
theorem bits_or8 (a b : BitVec 8) : bits .or .u8 (a.toNat : Int) (b.toNat : Int) = ((a ||| b).toNat : Int) := by
  unfold bits
  simp only [IntKind.bits]
  rw [show BitVec.ofInt 8 (a.toNat : Int) = a by simp, show BitVec.ofInt 8 (b.toNat : Int) = b by simp]
  exact wrap_u8 _ (a ||| b).isLt
theorem bits_xor8 (a b : BitVec 8) : bits .xor .u8 (a.toNat : Int) (b.toNat : Int) = ((a ^^^ b).toNat : Int) := by
  unfold bits
  simp only [IntKind.bits]
  rw [show BitVec.ofInt 8 (a.toNat : Int) = a by simp, show BitVec.ofInt 8 (b.toNat : Int) = b by simp]
  exact wrap_u8 _ (a ^^^ b).isLt
theorem byte_bv {x : Int} (h : 0 ≤ x ∧ x ≤ 255) : ∃ b : BitVec 8, x = (b.toNat : Int) := ⟨BitVec.ofNat 8 x.toNat, by rw [BitVec.toNat_ofNat]; omega⟩
theorem or8_zero {u v : Int} (hu : 0 ≤ u ∧ u ≤ 255) (hv : 0 ≤ v ∧ v ≤ 255) : bits .or .u8 u v = 0 ↔ u = 0 ∧ v = 0 := by
  obtain ⟨a, rfl⟩ := byte_bv hu
  obtain ⟨b, rfl⟩ := byte_bv hv
  rw [bits_or8]
  have h0 : ∀ c : BitVec 8, (c.toNat : Int) = 0 ↔ c = 0#8 := fun c => by
    rw [← BitVec.toNat_inj]; simp
  rw [h0, h0, h0, BitVec.or_eq_zero_iff]
theorem xor8_zero {u v : Int} (hu : 0 ≤ u ∧ u ≤ 255) (hv : 0 ≤ v ∧ v ≤ 255) : bits .xor .u8 u v = 0 ↔ u = v := by
  obtain ⟨a, rfl⟩ := byte_bv hu
  obtain ⟨b, rfl⟩ := byte_bv hv
  rw [bits_xor8]
  have h0 : ((a ^^^ b).toNat : Int) = 0 ↔ a ^^^ b = 0#8 := by rw [← BitVec.toNat_inj]; simp
  rw [h0, BitVec.xor_eq_zero_iff, ← BitVec.toNat_inj]
  omega
/-- What is unlike in the first ones. -/
def unlB (xs ys : List Int) : Nat → Int
  | 0 => 0
  | k + 1 => bits .or .u8 (unlB xs ys k) (bits .xor .u8 (xs[k]?.getD 0) (ys[k]?.getD 0))
theorem unlB_byte (xs ys : List Int) (k : Nat) : 0 ≤ unlB xs ys k ∧ unlB xs ys k ≤ 255 := by
  cases k with
  | zero => exact ⟨by simp [unlB], by simp [unlB]⟩
  | succ k => exact bits_u8 ..
theorem unlB_zero {xs ys : List Int} (hx : Bytes xs) (hy : Bytes ys) (k : Nat) : unlB xs ys k = 0 ↔ ∀ j, j < k → xs[j]?.getD 0 = ys[j]?.getD 0 := by
  have byte : ∀ {l : List Int} (h : Bytes l) (j : Nat), 0 ≤ l[j]?.getD 0 ∧ l[j]?.getD 0 ≤ 255 := fun {l} h j => by
    cases e : l[j]? with
    | none => simp
    | some x => exact h x (List.mem_of_getElem? e)
  induction k with
  | zero => simp [unlB]
  | succ k ih =>
    rw [unlB, or8_zero (unlB_byte ..) (bits_u8 ..), xor8_zero (byte hx k) (byte hy k)]
    constructor
    · rintro ⟨h1, h2⟩ j hj
      rcases Nat.lt_or_ge j k with h | h
      · exact ih.1 h1 j h
      · obtain rfl : j = k := by omega
        exact h2
    · intro h
      exact ⟨ih.2 (fun j hj => h j (by omega)), h k (by omega)⟩
theorem same_bytes {xs ys : List Int} (hx : Bytes xs) (hy : Bytes ys) (n : Nat) (h1 : xs.length = n) (h2 : ys.length = n) : unlB xs ys n = 0 ↔ xs = ys := by
  rw [unlB_zero hx hy]
  constructor
  · intro h
    apply List.ext_getElem (by omega)
    intro i hi1 hi2
    have := h i (by omega)
    rwa [List.getElem?_eq_getElem hi1, List.getElem?_eq_getElem hi2] at this
  · rintro rfl j _
    rfl
set_option maxRecDepth 100000 in
set_option maxHeartbeats 4000000 in
theorem same_any (A B : Option Addr) (n c m d : Nat) (xs ys : List Int) (w : World) (hx : Rd w .u8 A n xs) (hy : Rd w .u8 B m ys) :
    Calls Try.prog 48 #[.slice A n c, .slice B m d] w fun e w' => e = .returned (.bool (decide (xs = ys))) ∧ Drawn w w' := by
  have hxl := hx.len
  have hyl := hy.len
  have hb1 := hx.big
  have hb2 := hy.big
  by_cases hnm : n = m
  · subst hnm
    have f1 : ((n : Int) != (n : Int)) = false := by simp
    have HX := Lib.hid hx
    have HY := Lib.hid hy
    have HS := Lib.hid (same_bytes (bytes_of_wf hx.wf) (bytes_of_wf hy.wf) n hxl hyl)
    clear hx hy hxl hyl
    go_enter Try.func48, Try.ntmps48
    go_wp2_with fail
    go_loopw [5, 14] (fun u i wr => ∃ j : Nat, j ≤ n ∧ i = .int .i64 (j : Int) ∧ u = .int .u8 (unlB xs ys j) ∧ Drawn w wr) (fun _ i _ => n - (intOf i).toNat)
    case atStart => exact ⟨0, Nat.zero_le _, rfl, rfl, Drawn.refl _⟩
    case round =>
      obtain ⟨j, hj, rfl, rfl, q, rfl⟩ := hrel
      by_cases hlt : j < n
      · obtain ⟨b1, o1, rfl, -, hc1⟩ := HX.out.row (by omega)
        obtain ⟨b2, o2, rfl, -, hc2⟩ := HY.out.row (by omega)
        have d1 : (w.drewN q).cell? ⟨b1, o1 + j, none⟩ = some (.int .u8 (xs[j]?.getD 0)) := hc1 j hlt
        have d2 : (w.drewN q).cell? ⟨b2, o2 + j, none⟩ = some (.int .u8 (ys[j]?.getD 0)) := hc2 j hlt
        have HU : Hid (unlB xs ys (j + 1) = bits .or .u8 (unlB xs ys j) (bits .xor .u8 (xs[j]?.getD 0) (ys[j]?.getD 0))) := Lib.hid rfl
        generalize unlB xs ys j = U at HU
        generalize xs[j]?.getD 0 = x at d1 HU
        generalize ys[j]?.getD 0 = y at d2 HU
        have i0 : (0 : Int) ≤ (j : Int) := by omega
        have i1 : (j : Int) < (n : Int) := by omega
        have HLT := Lib.hid hlt
        clear hc1 hc2 hlt hj
        go_wp2_with fail
        have e1 : (w.drewN q).drew.cell? ⟨b1, o1 + j, none⟩ = some (.int .u8 x) := d1
        have e2 : (w.drewN q).drew.cell? ⟨b2, o2 + j, none⟩ = some (.int .u8 y) := d2
        refine wp_region_noPanic ?_
        refine wp_region_held_drew (S := (fun w' => w'.cell? ⟨b1, o1 + j, none⟩ = some (.int .u8 x) ∧ w'.cell? ⟨b2, o2 + j, none⟩ = some (.int .u8 y))) (by kernel_rfl) ?_ (fun hHeld => ?_)
        · ((try dsimp only); refine ⟨?_, ?_⟩ <;> (first | assumption | (go_keep; done)))
        refine wpAnyH_take (i := 0) (oi := ⟨some 17, _, _, _, _, _⟩) (v := ?_) rfl (by kernel_rfl) (by kernel_rfl) (by kernel_rfl) (fun _ _ _ h => False.elim h) (Or.inl ⟨by rfl, ?_⟩) (by assumption) ?_
        rotate_left
        · intro w hSw
          (try dsimp only at hSw)
          go_simp
          all_goals with_reducible rfl
        (try simp only [Act.put, List.setIfInBounds_toArray, List.set_cons_zero, List.set_cons_succ])
        refine wpAnyH_take (i := 1) (oi := ⟨some 18, _, _, _, _, _⟩) (v := ?_) rfl (by kernel_rfl) (by kernel_rfl) (by kernel_rfl) (fun _ _ _ h => False.elim h) (Or.inl ⟨by rfl, ?_⟩) (by assumption) ?_
        rotate_left
        · intro w hSw
          (try dsimp only at hSw)
          go_simp
          all_goals with_reducible rfl
        (try simp only [Act.put, List.setIfInBounds_toArray, List.set_cons_zero, List.set_cons_succ])
        refine wpAnyH_take (i := 2) (oi := ⟨some 19, _, _, _, _, _⟩) (v := ?_) rfl (by kernel_rfl) (by kernel_rfl) (by kernel_rfl) (fun _ _ _ h => False.elim h) (Or.inl ⟨by rfl, ?_⟩) (by assumption) ?_
        rotate_left
        · intro w hSw
          (try dsimp only at hSw)
          go_simp
          all_goals with_reducible rfl
        (try simp only [Act.put, List.setIfInBounds_toArray, List.set_cons_zero, List.set_cons_succ])
        refine wpAnyH_take (i := 3) (oi := ⟨some 20, _, _, _, _, _⟩) (v := ?_) rfl (by kernel_rfl) (by kernel_rfl) (by kernel_rfl) (fun _ _ _ h => False.elim h) (Or.inl ⟨by rfl, ?_⟩) (by assumption) ?_
        rotate_left
        · intro w hSw
          (try dsimp only at hSw)
          go_simp
          all_goals with_reducible rfl
        (try simp only [Act.put, List.setIfInBounds_toArray, List.set_cons_zero, List.set_cons_succ])
        refine wpAnyH_take (i := 4) (oi := ⟨some 21, _, _, _, _, _⟩) (v := ?_) rfl (by kernel_rfl) (by kernel_rfl) (by kernel_rfl) (fun _ _ _ h => False.elim h) (Or.inl ⟨by rfl, ?_⟩) (by assumption) ?_
        rotate_left
        · intro w hSw
          (try dsimp only at hSw)
          go_simp
          all_goals with_reducible rfl
        (try simp only [Act.put, List.setIfInBounds_toArray, List.set_cons_zero, List.set_cons_succ])
        refine wpAnyH_take (i := 5) (oi := ⟨some 22, _, _, _, _, _⟩) (v := ?_) rfl (by kernel_rfl) (by kernel_rfl) (by kernel_rfl) (fun _ _ _ h => False.elim h) (Or.inl ⟨by rfl, ?_⟩) (by assumption) ?_
        rotate_left
        · intro w hSw
          (try dsimp only at hSw)
          go_simp
          all_goals with_reducible rfl
        (try simp only [Act.put, List.setIfInBounds_toArray, List.set_cons_zero, List.set_cons_succ])
        refine wpAnyH_take (i := 6) (oi := ⟨some 23, _, _, _, _, _⟩) (v := ?_) rfl (by kernel_rfl) (by kernel_rfl) (by kernel_rfl) (fun _ _ _ h => False.elim h) (Or.inl ⟨by rfl, ?_⟩) (by assumption) ?_
        rotate_left
        · intro w hSw
          (try dsimp only at hSw)
          go_simp
          all_goals with_reducible rfl
        (try simp only [Act.put, List.setIfInBounds_toArray, List.set_cons_zero, List.set_cons_succ])
        refine wpAnyH_take (i := 7) (oi := ⟨some 24, _, _, _, _, _⟩) (v := ?_) rfl (by kernel_rfl) (by kernel_rfl) (by kernel_rfl) (fun _ _ _ h => False.elim h) (Or.inl ⟨by rfl, ?_⟩) (by assumption) ?_
        rotate_left
        · intro w hSw
          (try dsimp only at hSw)
          go_simp
          all_goals with_reducible rfl
        (try simp only [Act.put, List.setIfInBounds_toArray, List.set_cons_zero, List.set_cons_succ])
        refine wpAnyH_take (i := 8) (oi := ⟨some 25, _, _, _, _, _⟩) (v := ?_) rfl (by kernel_rfl) (by kernel_rfl) (by kernel_rfl) (fun _ _ _ h => False.elim h) (Or.inl ⟨by rfl, ?_⟩) (by assumption) ?_
        rotate_left
        · intro w hSw
          (try dsimp only at hSw)
          go_simp
          all_goals with_reducible rfl
        (try simp only [Act.put, List.setIfInBounds_toArray, List.set_cons_zero, List.set_cons_succ])
        refine wpAnyH_take (i := 9) (oi := ⟨some 26, _, _, _, _, _⟩) (v := ?_) rfl (by kernel_rfl) (by kernel_rfl) (by kernel_rfl) (fun _ _ _ h => False.elim h) (Or.inl ⟨by rfl, ?_⟩) (by assumption) ?_
        rotate_left
        · intro w hSw
          (try dsimp only at hSw)
          go_simp
          all_goals with_reducible rfl
        (try simp only [Act.put, List.setIfInBounds_toArray, List.set_cons_zero, List.set_cons_succ])
        refine wpAnyH_take (i := 10) (oi := ⟨some 27, _, _, _, _, _⟩) (v := ?_) rfl (by kernel_rfl) (by kernel_rfl) (by kernel_rfl) (fun _ _ _ h => False.elim h) (Or.inl ⟨by rfl, ?_⟩) (by assumption) ?_
        rotate_left
        · intro w hSw
          (try dsimp only at hSw)
          go_simp
          all_goals with_reducible rfl
        (try simp only [Act.put, List.setIfInBounds_toArray, List.set_cons_zero, List.set_cons_succ])
        refine wpAnyH_take (i := 11) (oi := ⟨some 5, _, _, _, _, _⟩) (v := ?_) rfl (by kernel_rfl) (by kernel_rfl) (by kernel_rfl) (fun _ _ _ h => False.elim h) (Or.inl ⟨by rfl, ?_⟩) (by assumption) ?_
        rotate_left
        · intro w hSw
          (try dsimp only at hSw)
          go_simp
          all_goals with_reducible rfl
        (try simp only [Act.put, List.setIfInBounds_toArray, List.set_cons_zero, List.set_cons_succ])
        refine wpAnyH_done (by kernel_rfl) ?_ _
        refine NoPanic.normal ?_
        go_wp2_with fail
        go_roundw
        case rel => exact ⟨j + 1, by have := HLT.out; omega, by go_num, by rw [HU.out], _, rfl⟩
        case measure => simp [intOf]; have := HLT.out; omega
      · obtain rfl : j = n := by omega
        clear hlt hj
        have HD : Hid ((unlB xs ys j == 0) = decide (xs = ys)) := Lib.hid (by
          rw [Bool.eq_iff_iff]; simp only [beq_iff_eq, decide_eq_true_eq]; exact HS.out)
        generalize unlB xs ys j = U at HD
        go_wp2_with fail
        go_ret
        exact ⟨by rw [← HD.out]; rfl, q, rfl⟩
  · have f1 : ((n : Int) != (m : Int)) = true := by simp; omega
    have HN : Hid (decide (xs = ys) = false) := Lib.hid (by
      rw [decide_eq_false_iff_not]; intro h; subst h; omega)
    clear hx hy hxl hyl
    go_enter Try.func48, Try.ntmps48
    go_wp2_with fail
    go_ret
    exact ⟨by rw [HN.out]; rfl, Drawn.refl _⟩
def BelowAns (kind : Int) (f t : List Int) (ps : List Piece) (T : Int) (w : World) (e : Ending) (w' : World) : Prop :=
  ∃ G cells, e = .returned (.agg (pktC kind f t (.slice (some ⟨G, 0, none⟩) (paBelow ps T).length (paBelow ps T).length)).toArray) ∧ PsOwn w.heap.size w' (.slice (some ⟨G, 0, none⟩) (paBelow ps T).length (paBelow ps T).length) (paBelow ps T) cells ∧ Below w.heap.size w w'
set_option maxRecDepth 100000 in
set_option maxHeartbeats 4000000 in
theorem belowp_any (kind : Int) (f t : List Int) (ps : List Piece) (T : Int) (A : Option Addr) (n c : Nat) (w : World) (hps : Ps w A n ps) (hn : n < 1099511627776) (hf : f.length = 16) (ht : t.length = 16) :
    Calls Try.prog 47 #[.agg (pktC kind f t (.slice A n c)).toArray, .int .u16 T] w (BelowAns kind f t ps T w) := by
  obtain ⟨C, hC⟩ : ∃ C, pktC kind f t (.slice A n c) = C := ⟨_, rfl⟩
  have hcl : C.length = 34 := by rw [← hC]; exact pktC_length hf ht
  have hc33 : C[33]? = some (.slice A n c) := by rw [← hC, pktC, List.getElem?_cons_succ, List.getElem?_append_right (by simp [hf]), List.getElem?_append_right (by simp [hf, ht])]; simp [hf, ht]
  have hbel := fun (W : World) (hb : Below w.heap.size w W) => below_any A n c T ps W (hps.below hb) hn
  rw [hC]
  have HBEL := Lib.hid hbel
  have HU := Lib.hid Try.underlying45
  have HAL := Lib.hid alloc_pkt
  have HZL : Hid (zPktL.length = 34) := Lib.hid rfl
  generalize zPktL = Z at HAL HZL
  have HC33 := Lib.hid hc33
  have HCC := Lib.hid hC
  have HF := Lib.hid hf
  have HTL := Lib.hid ht
  clear hps hn hc33 hbel hcl hC hf ht
  go_enter Try.func47, Try.ntmps47
  go_wp2_with (first
    | ((with_reducible refine wpList_isK (o := ⟨some 2, _, _, _, _, _⟩) ?_); refine wpList_boxT (o := ⟨some 2, .box 45 _, _, _, _, _⟩) rfl 45 _ rfl C rfl ?_; intro w2 HP2 HB2; obtain ⟨P, hP⟩ : ∃ R, w.heap.size = R := ⟨_, rfl⟩; rw [hP] at HP2 ⊢; have HPP := Lib.hid hP; clear hP)
    | ((with_reducible refine wpList_isK (o := ⟨some 4, _, _, _, _, _⟩) ?_); refine wpList_allocT (o := ⟨some 4, .alloc 45, _, _, _, _⟩) rfl 45 Z (fun W => HAL.out W _ rfl _) ?_; intro w3 HR3 HB3'; obtain ⟨R, hR⟩ : ∃ R, w2.heap.size = R := ⟨_, rfl⟩; rw [hR] at HR3 ⊢; have HRR := Lib.hid (show w.heap.size ≤ R ∧ P < R by have := HB2.out.size; have := HP2.out.lt; omega); have HB3 := Lib.hid (HB2.out.trans (HB3'.out.mono HB2.out.size)); have HP3 := Lib.hid (HP2.out.below HB3'.out HP2.out.lt); have d33 : w3.cell? ⟨P, 33, none⟩ = some (.slice A n c) := (HP3.out.cell 33).trans HC33.out; clear hR HB3'))
  refine (HBEL.out w3 HB3.out).mono ?_
  rintro e w4 ⟨G, cells, rfl, ho4, hb4⟩
  have HB4 := Lib.hid (HB3.out.trans (hb4.mono HB3.out.size))
  have HP4 := Lib.hid (HP3.out.below hb4 HP3.out.lt)
  have HR4 := Lib.hid (HR3.out.below hb4 HR3.out.lt)
  have f33 := HP4.out.free 33
  have c33 : w4.cell? ⟨P, 33, none⟩ = some (.slice A n c) := (HP4.out.cell 33).trans HC33.out
  obtain ⟨N1, hN1⟩ : ∃ N, (paBelow ps T).length = N := ⟨_, rfl⟩
  rw [hN1] at ho4 ⊢
  have HN1 := Lib.hid hN1
  have ho5 := ho4.keep (w' := w4.setCell ⟨P, 33, none⟩ (.slice (some ⟨G, 0, none⟩) N1 N1)) (Keeps.set1 w4 ⟨P, 33, none⟩ _) (fun k cur hk hh hm => by
    simp only at hm
    subst hm
    have hlt := HP3.out.lt
    omega)
  have HO5 := Lib.hid (ho5.lower HB3.out.size)
  have HP5 : Hid (Blk (w4.setCell ⟨P, 33, none⟩ (.slice (some ⟨G, 0, none⟩) N1 N1)) P 45 (pktC kind f t (.slice (some ⟨G, 0, none⟩) N1 N1))) := Lib.hid (by
    have := HP4.out.put 33 (.slice (some ⟨G, 0, none⟩) N1 N1)
    rwa [← HCC.out, pktC_set33 HF.out HTL.out] at this)
  have HR5 := Lib.hid (HR4.out.far (p := ⟨P, 33, none⟩) (fun h => by have := HRR.out; simp at h; omega) (.slice (some ⟨G, 0, none⟩) N1 N1))
  have HB5 := Lib.hid (HB4.out.setCell (p := ⟨P, 33, none⟩) (by have := HPP.out; simp; omega) (.slice (some ⟨G, 0, none⟩) N1 N1))
  clear hb4 HB3 HP3 HR3 d33 hN1 ho4 ho5
  go_upto_region 2 with fail
  generalize w4.setCell ⟨P, 33, none⟩ (.slice (some ⟨G, 0, none⟩) N1 N1) = w5 at HR5 HB5 HP5 HO5 ⊢
  clear HP4 HR4 HB4 f33 c33
  obtain ⟨C2, hC2⟩ : ∃ C, pktC kind f t (.slice (some ⟨G, 0, none⟩) N1 N1) = C := ⟨_, rfl⟩
  have HCL2 : Hid (C2.length = 34) := Lib.hid (by rw [← hC2]; exact pktC_length HF.out HTL.out)
  have HC21 : Hid (∀ v ∈ C2, v.oneCell' = true) := Lib.hid (by rw [← hC2]; exact pktC_one)
  have HSC2 : Hid ((Try.prog.info? 45).map (·.size) = some C2.length) := Lib.hid (by rw [HCL2.out]; exact info_pkt)
  rw [hC2] at HP5
  have HCC2 := Lib.hid hC2
  clear hC2
  go_wp2_with (first
    | ((with_reducible refine wpList_isK (o := ⟨some 10, _, _, _, _, _⟩) ?_); refine wpList_loadT (o := ⟨some 10, _, _, _, _, _⟩) rfl 45 _ rfl P rfl 45 C2 _ HP5.out HU.out rfl HSC2.out ?_)
    | ((with_reducible refine wpList_isK (o := ⟨none, .store 45 (.tmp 4) (.tmp 10), _, _, _, _⟩) ?_); refine wpList_over (o := ⟨none, .store 45 (.tmp 4) _, _, _, _, _⟩) rfl 45 _ _ rfl R C2 Z 45 rfl rfl HR5.out (by rw [HCL2.out, HZL.out]) HSC2.out HC21.out ?_; intro wz HRz hkz; have HBz := Lib.hid (below_keeps HB5.out hkz.out (Nat.le_refl _) (fun i hi => by rw [hi]; exact HRR.out.1)); have HOz := Lib.hid (HO5.out.keep hkz.out (fun k cur hk hh hm => by have h2 := HR5.out; unfold Blk at h2; subst hm; rw [h2] at hh; rcases hh with hh | hh <;> (injection hh with hh; injection hh with _ hh2; revert hh2; decide)))))
  refine bodyPost_ret (results_rowT rfl _ R _ C2 _ rfl HRz.out HU.out rfl HSC2.out) rfl ?_
  exact ⟨G, cells, by rw [HN1.out, HCC2.out], by rw [HN1.out]; exact HOz.out, HBz.out⟩
end Go.Proofs.Ytadpgodmkodgdaa

namespace Go.Proofs.Ytadpgodmkodgdaa
open Go.RowKit
set_option linter.unusedSimpArgs false
set_option linter.unusedVariables false

theorem OnAns.form {key : List Int} {kind : Int} {f t : List Int} {ps : List Piece} {T : Int} {w : World} {e : Ending} {w' : World} (h : OnAns key kind f t ps T w e w') (hf : f.length = 16) (ht : t.length = 16) :
    ∃ (V : List Value) (E : Int), e = .returned (.tuple #[.agg V.toArray, .int .i64 E]) ∧ V.length = 34 ∧ (∀ v ∈ V, v.oneCell' = true) ∧ Below w.heap.size w w' := by
  rcases h with ⟨_, h2, h3⟩ | ⟨_, G, cells, N, h2, _, _, h3⟩
  · exact ⟨zPkt, _, h2, rfl, pktC_one, h3⟩
  · exact ⟨_, 0, h2, pktC_length hf ht, pktC_one, h3⟩
theorem OnAns.step {key : List Int} {kind : Int} {f t : List Int} {ps : List Piece} {T : Int} {w W W' W2 : World} {e : Ending} {R : Nat} {V : List Value} (h : OnAns key kind f t ps T W e W') (hb : Below w.heap.size w W) (hk : Keeps (· = R) W' W2) (hR : w.heap.size ≤ R) (hV : Blk W' R 45 V) :
    OnAns key kind f t ps T w e W2 := by
  rcases h with ⟨h1, h2, h3⟩ | ⟨h1, G, cells, N, h2, hl, ho, h3⟩
  · exact .inl ⟨h1, h2, below_keeps (hb.trans (h3.mono hb.size)) hk (Nat.le_refl _) (fun i hi => by rw [hi]; exact hR)⟩
  · refine .inr ⟨h1, G, cells, N, h2, hl, (ho.keep hk (fun k cur hk' hh hm => ?_)).lower hb.size, below_keeps (hb.trans (h3.mono hb.size)) hk (Nat.le_refl _) (fun i hi => by rw [hi]; exact hR)⟩
    unfold Blk at hV
    subst hm
    rw [hV] at hh
    rcases hh with hh | hh <;> (injection hh with hh; injection hh with _ hh2; revert hh2; decide)
set_option maxRecDepth 100000 in
set_option maxHeartbeats 4000000 in
theorem guide_any (key : List Int) (kind : Int) (f t : List Int) (ps : List Piece) (A : Option Addr) (n c : Nat) (w : World) (hps : Ps w A n ps) (hn : n < 1099511627776) (hf : f.length = 16) (ht : t.length = 16) (hfb : isB f) (htb : isB t) (hk : 0 ≤ kind ∧ kind ≤ 255)
    (hkl : key.length = 32) (hkb : Bytes key) :
    Calls Try.prog 20 #[.agg (pktC kind f t (.slice A n c)).toArray, .agg (key.map (Value.int .u8)).toArray] w (OnAns key kind f t ps 65502 w) := by
  obtain ⟨C, hC⟩ : ∃ C, pktC kind f t (.slice A n c) = C := ⟨_, rfl⟩
  have hcl : C.length = 34 := by rw [← hC]; exact pktC_length hf ht
  have hon := fun (W : World) (KB : Nat) (hb : Below w.heap.size w W) (hK : Blk W KB 41 (key.map (Value.int .u8))) => on_any KB key kind f t ps 65502 A n c W (hps.below hb) hn hf ht hfb htb hk hK hkl hkb (by omega)
  have hcs := fun W => csum_any 65502 key W
  obtain ⟨X, hX⟩ : ∃ X, key.map (Value.int .u8) = X := ⟨_, rfl⟩
  have hxl : X.length = 32 := by rw [← hX, List.length_map, hkl]
  rw [hC] at hon ⊢
  rw [hX] at hcs ⊢
  have HON := Lib.hid hon
  have HCS := Lib.hid hcs
  have HX := Lib.hid hX
  have HSC : Hid ((Try.prog.info? 45).map (·.size) = some C.length) := Lib.hid (by rw [hcl]; exact info_pkt)
  have HSX : Hid ((Try.prog.info? 41).map (·.size) = some X.length) := Lib.hid (by rw [hxl]; exact size_sumt)
  have HU := Lib.hid Try.underlying45
  have HUS := Lib.hid Try.underlying41
  have HAL := Lib.hid alloc_pkt
  have HZL : Hid (zPktL.length = 34) := Lib.hid rfl
  generalize zPktL = Z at HAL HZL
  have HF := Lib.hid hf
  have HTL := Lib.hid ht
  clear hps hn hcl hC hf ht hfb htb hk hkl hkb hon hcs hX hxl
  go_enter Try.func20, Try.ntmps20
  go_upto_region 1 with (first
    | ((with_reducible refine wpList_isK (o := ⟨some 2, _, _, _, _, _⟩) ?_); refine wpList_boxT (o := ⟨some 2, .box 45 _, _, _, _, _⟩) rfl 45 _ rfl C rfl ?_; intro w1 HP1 HB1; obtain ⟨P, hP⟩ : ∃ R, w.heap.size = R := ⟨_, rfl⟩; rw [hP] at HP1 ⊢; have HPP := Lib.hid hP; clear hP)
    | ((with_reducible refine wpList_isK (o := ⟨some 3, _, _, _, _, _⟩) ?_); refine wpList_boxT (o := ⟨some 3, .box 41 _, _, _, _, _⟩) rfl 41 _ rfl X rfl ?_; intro w2 HK2 HB2'; obtain ⟨Q, hQ⟩ : ∃ R, w1.heap.size = R := ⟨_, rfl⟩; rw [hQ] at HK2 ⊢; have HB2 := Lib.hid (HB1.out.trans (HB2'.out.mono HB1.out.size)); have HP2 := Lib.hid (HP1.out.below HB2'.out HP1.out.lt); clear hQ HB2')
    | ((with_reducible refine wpList_isK (o := ⟨some 4, _, _, _, _, _⟩) ?_); refine wpList_allocT (o := ⟨some 4, .alloc 45, _, _, _, _⟩) rfl 45 Z (fun W => HAL.out W _ rfl _) ?_; intro w3 HR3 HB3'; obtain ⟨R, hR⟩ : ∃ R, w2.heap.size = R := ⟨_, rfl⟩; rw [hR] at HR3 ⊢; have HRR := Lib.hid (show w.heap.size ≤ R ∧ P < R ∧ Q < R by have := HB2.out.size; have := HP2.out.lt; have := HK2.out.lt; omega); have HB3 := Lib.hid (HB2.out.trans (HB3'.out.mono HB2.out.size)); have HP3 := Lib.hid (HP2.out.below HB3'.out HP2.out.lt); have HK3 := Lib.hid (HK2.out.below HB3'.out HK2.out.lt); clear hR HB3'))
  have HB4 : Hid (Below w.heap.size w w3.drew) := Lib.hid (below_drawn HB3.out ⟨1, rfl⟩)
  have HP4 : Hid (Blk w3.drew P 45 C) := Lib.hid HP3.out.drew
  have HK4 : Hid (Blk w3.drew Q 41 X) := Lib.hid HK3.out.drew
  have HR4 : Hid (Blk w3.drew R 45 Z) := Lib.hid HR3.out.drew
  refine wp_region_noPanic ?_
  refine wp_region_held_drew (S := fun w' => w'.rangeAt Q 0 X ∧ w'.rangeAt P 0 C) (by kernel_rfl) ⟨HK4.out.range, HP4.out.range⟩ (fun hHeld => ?_)
  refine wpAnyH_take (i := 0) (oi := ⟨some 6, _, _, _, _, _⟩) (v := .agg X.toArray) rfl (by kernel_rfl) (by kernel_rfl) (by kernel_rfl) (fun _ _ _ h => False.elim h) ?_ (by assumption) ?_
  · refine yieldsIf_load_mid ?_ 41 _ rfl Q 0 rfl X _ ?_ HUS.out rfl HSX.out
    · rfl
    · (intro w hSw; (try dsimp only at hSw); go_split_ands; assumption)
  (try simp only [Act.put, List.setIfInBounds_toArray, List.set_cons_zero, List.set_cons_succ])
  refine wpAnyH_take (i := 2) (oi := ⟨some 8, _, _, _, _, _⟩) (v := .agg C.toArray) rfl (by kernel_rfl) (by kernel_rfl) (by kernel_rfl) (fun _ _ _ h => False.elim h) ?_ (by assumption) ?_
  · refine yieldsIf_load_mid ?_ 45 _ rfl P 0 rfl C _ ?_ HU.out rfl HSC.out
    · rfl
    · (intro w hSw; (try dsimp only at hSw); go_split_ands; assumption)
  (try simp only [Act.put, List.setIfInBounds_toArray, List.set_cons_zero, List.set_cons_succ])
  refine wpAnyH_ready (rs := [1]) (by kernel_rfl) (by simp) ?_
  refine AllReadyH.cons (o := ⟨some 7, _, _, _, _, _⟩) rfl (fun K hK => ?_) AllReadyH.nil
  go_simp
  refine (HCS.out _).mono ?_
  rintro e1 w5 ⟨KB, rfl, hKB, hkk, hb5⟩
  dsimp only
  have HB5 := Lib.hid (HB4.out.trans (hb5.mono HB4.out.size))
  have HP5 := Lib.hid (HP4.out.below hb5 HP4.out.lt)
  have HK5 := Lib.hid (HK4.out.below hb5 HK4.out.lt)
  have HR5 := Lib.hid (HR4.out.below hb5 HR4.out.lt)
  have HO5 := Lib.hid (HON.out w5 KB HB5.out hkk)
  clear hb5 hkk hKB
  refine hK.out _ _ ⟨HK5.out.range, HP5.out.range⟩ (fun hHeld => ?_)
  clear hK K
  (try simp only [Act.put, List.setIfInBounds_toArray, List.set_cons_zero, List.set_cons_succ])
  refine wpAnyH_ready (rs := [3]) (by kernel_rfl) (by simp) ?_
  refine AllReadyH.cons (o := ⟨some 9, _, _, _, _, _⟩) rfl (fun K hK => ?_) AllReadyH.nil
  go_simp
  refine HO5.out.mono ?_
  intro e1 w6 hon6
  obtain ⟨V, E, rfl, hvl, hv1, hb6⟩ := hon6.form HF.out HTL.out
  dsimp only
  have HSV : Hid ((Try.prog.info? 45).map (·.size) = some V.length) := Lib.hid (by rw [hvl]; exact info_pkt)
  have HVL := Lib.hid hvl
  have HV1 := Lib.hid hv1
  have HON6 := Lib.hid hon6
  have HP6 := Lib.hid (HP5.out.below hb6 HP5.out.lt)
  have HK6 := Lib.hid (HK5.out.below hb6 HK5.out.lt)
  have HR6 := Lib.hid (HR5.out.below hb6 HR5.out.lt)
  clear hon6 hvl hv1 hb6
  refine hK.out _ _ ⟨HK6.out.range, HP6.out.range⟩ (fun hHeld => ?_)
  clear hK K
  (try simp only [Act.put, List.setIfInBounds_toArray, List.set_cons_zero, List.set_cons_succ])
  refine wpAnyH_take (i := 4) (oi := ⟨some 10, _, _, _, _, _⟩) (v := ?_) rfl (by kernel_rfl) (by kernel_rfl) (by kernel_rfl) (fun _ _ _ h => False.elim h) (Or.inl ⟨by rfl, ?_⟩) (by assumption) ?_
  rotate_left
  · intro w hSw
    (try dsimp only at hSw)
    go_simp
    all_goals with_reducible rfl
  (try simp only [Act.put, List.setIfInBounds_toArray, List.set_cons_zero, List.set_cons_succ])
  refine wpAnyH_take (i := 5) (oi := ⟨some 11, _, _, _, _, _⟩) (v := ?_) rfl (by kernel_rfl) (by kernel_rfl) (by kernel_rfl) (fun _ _ _ h => False.elim h) (Or.inl ⟨by rfl, ?_⟩) (by assumption) ?_
  rotate_left
  · intro w hSw
    (try dsimp only at hSw)
    go_simp
    all_goals with_reducible rfl
  (try simp only [Act.put, List.setIfInBounds_toArray, List.set_cons_zero, List.set_cons_succ])
  refine wpAnyH_ready (rs := [6]) (by kernel_rfl) (by simp) ?_
  refine AllReadyH.cons (o := ⟨none, _, _, _, _, _⟩) rfl (fun K hK => ?_) AllReadyH.nil
  refine step_overT rfl 45 _ _ rfl R V Z 45 rfl rfl HR6.out (by rw [HVL.out, HZL.out]) HSV.out HV1.out ?_
  intro w7 HR7 hk7
  have HP7 := Lib.hid (HP6.out.keep hk7.out (fun h => by have := HRR.out; omega))
  have HK7 := Lib.hid (HK6.out.keep hk7.out (fun h => by have := HRR.out; omega))
  have HFIN := Lib.hid (HON6.out.step HB5.out hk7.out HRR.out.1 HR6.out)
  refine hK.out _ _ ⟨HK7.out.range, HP7.out.range⟩ (fun hHeld => ?_)
  clear hK K
  (try simp only [Act.put, List.setIfInBounds_toArray, List.set_cons_zero, List.set_cons_succ])
  refine wpAnyH_take (i := 7) (oi := ⟨some 5, _, _, _, _, _⟩) (v := ?_) rfl (by kernel_rfl) (by kernel_rfl) (by kernel_rfl) (fun _ _ _ h => False.elim h) (Or.inl ⟨by rfl, ?_⟩) (by assumption) ?_
  rotate_left
  · intro w hSw
    (try dsimp only at hSw)
    go_simp
    all_goals with_reducible rfl
  (try simp only [Act.put, List.setIfInBounds_toArray, List.set_cons_zero, List.set_cons_succ])
  refine wpAnyH_done (by kernel_rfl) ?_ _
  refine NoPanic.normal ?_
  go_wp2_with fail
  refine bodyPost_ret (results_row_tmp rfl _ _ R V _ rfl HR7.out HU.out rfl HSV.out) rfl ?_
  exact HFIN.out
end Go.Proofs.Ytadpgodmkodgdaa
