/- A set of spots: the walk over Change; A set of spots and the document's set: plain laws: what is alike stays alike, and answers alike. -/
import Derived.Test.YtgecfcdafbedaaaGreatDoorZRSpotsPlayUpto28
namespace Go.Proofs.YtgecfcdafbedaaaGreatDoor
open Go.RowKit
set_option linter.unusedSimpArgs false
set_option linter.unusedVariables false

/-- A new list of spots, just as many as it has room for. -/
def ListR (base : Nat) (w' : World) (xs : List Int) (A : Option Addr) : Prop :=
  (0 < xs.length → ∃ G cells, A = some ⟨G, 0, none⟩ ∧ base ≤ G ∧ Blk w' G 23 cells ∧ cells.take xs.length = xs.map (Value.int .u32)) ∧ (xs.length = 0 → A = none)
theorem ListR.rd {base : Nat} {w' : World} {xs : List Int} {A : Option Addr} (h : ListR base w' xs A) (hb : ∀ x ∈ xs, 0 ≤ x ∧ x ≤ 4294967295) (hl : xs.length ≤ 140737488351232) : Rd w' .u32 A xs.length xs :=
  ⟨rfl, hl, fun x hx => wf_of_u32S (hb x hx), fun h0 => by
    obtain ⟨G, cells, rfl, hG, hk, ht⟩ := h.1 h0
    refine ⟨G, 0, rfl, hk.lt, fun j hj => ?_⟩
    rw [Nat.zero_add, hk.cell j, show cells[j]? = (cells.take xs.length)[j]? by simp [List.getElem?_take, hj], ht]
    simp [hj]⟩
theorem own_listR {base : Nat} {w' : World} {n c : Nat} {A : Option Addr} {xs : List Int} (h : w'.ownsRow base 23 1 (.slice A n c) n (xs.map (Value.int .u32))) (hz : n = 0 → A = none) : ListR base w' xs A := by
  have hn : xs.length = n := by have := h.1; simpa using this
  subst hn
  rcases h.2 with ⟨h1, h2⟩ | ⟨g, cap, cur, h1, h2, h3, h4, h5, h6, h7⟩
  · exact ⟨fun h => absurd h (by omega), fun _ => by injection h1⟩
  · injection h1 with h1 _ _
    subst h1
    exact ⟨fun _ => ⟨g, cur.toList, rfl, h2, by unfold Blk; rw [h3], by rw [Nat.mul_one] at h7; exact h7⟩, hz⟩
def ChangeS (w : World) (p g : Nat) (l : List Spt) (cr : Int) (n : Nat) (xs : List Int) (e : Ending) (w' : World) : Prop :=
  (¬ SpOk n (atL xs) ∧ e = .returned (.tuple #[.slice none 0 0, .int .i64 1]) ∧ SetAt w' p g l cr ∧ Below w.heap.size w w')
  ∨ (SpOk n (atL xs) ∧ ∃ A G, e = .returned (.tuple #[.slice A (othersL l xs).length (othersL l xs).length, .int .i64 0]) ∧ ListR w.heap.size w' (othersL l xs) A ∧ w.heap.size ≤ G ∧ SetAt w' p G (changeL l xs) cr ∧ Keeps (fun i => i = p) w w')
/-- The same, told closer: the row that the new list lies in. -/
def ChangeO (w : World) (p g : Nat) (l : List Spt) (cr : Int) (n : Nat) (xs : List Int) (e : Ending) (w' : World) : Prop :=
  (¬ SpOk n (atL xs) ∧ e = .returned (.tuple #[.slice none 0 0, .int .i64 1]) ∧ SetAt w' p g l cr ∧ Below w.heap.size w w')
  ∨ (SpOk n (atL xs) ∧ ∃ A G, e = .returned (.tuple #[.slice A (othersL l xs).length (othersL l xs).length, .int .i64 0]) ∧ ListR w.heap.size w' (othersL l xs) A ∧ w.heap.size ≤ G ∧ SetAt w' p G (changeL l xs) cr ∧ Keeps (fun i => i = p) w w'
    ∧ ∃ c, w'.ownsRow w.heap.size 23 1 (.slice A (othersL l xs).length c) (othersL l xs).length ((othersL l xs).map (Value.int .u32)))
/-- The new set, so far. -/
def soFar (l : List Spt) (xs : List Int) (n k : Nat) : List Spt := changeL l (xs.take k) ++ List.replicate (n - k) ⟨0, 0, none⟩
theorem soFar_len {l : List Spt} {xs : List Int} {n k : Nat} (hl : xs.length = n) (hk : k ≤ n) : (soFar l xs n k).length = n := by
  simp [soFar, changeL, hl]; omega
theorem soFar_next {l : List Spt} {xs : List Int} {n k : Nat} {a : Int} (hl : xs.length = n) (hk : k < n) (ha : xs[k]? = some a) : (soFar l xs n k).set k (nowS l a) = soFar l xs n (k + 1) := by
  have hkl : (changeL l (xs.take k)).length = k := by simp [changeL]; omega
  have e1 : n - k = (n - (k + 1)) + 1 := by omega
  have e2 : xs.take (k + 1) = xs.take k ++ [a] := by
    have h := (List.getElem?_eq_some_iff.1 ha).1
    rw [List.take_succ_eq_append_getElem h, (List.getElem?_eq_some_iff.1 ha).2]
  unfold soFar
  rw [e1, List.replicate_succ, List.set_append_right _ _ (by omega), hkl, Nat.sub_self, List.set_cons_zero, e2]
  simp [changeL, List.append_assoc]
theorem soFar_end {l : List Spt} {xs : List Int} {n : Nat} (hl : xs.length = n) : soFar l xs n n = changeL l xs := by
  simp [soFar, ← hl]
theorem others_next {l : List Spt} {xs : List Int} {k : Nat} {a : Int} (ha : xs[k]? = some a) : othersL l (xs.take (k + 1)) = othersL l (xs.take k) ++ if (l.find? (isAt a)).isNone = true then [a] else [] := by
  have e2 : xs.take (k + 1) = xs.take k ++ [a] := by
    have h := (List.getElem?_eq_some_iff.1 ha).1
    rw [List.take_succ_eq_append_getElem h, (List.getElem?_eq_some_iff.1 ha).2]
  rw [e2, othersL, List.filter_append]
  congr 1
  cases h : (l.find? (isAt a)).isNone <;> simp [h]
theorem others_len (l : List Spt) (xs : List Int) : (othersL l xs).length ≤ xs.length := List.length_filter_le _ _
set_option maxRecDepth 100000 in
set_option maxHeartbeats 4000000 in
theorem change_own {p g : Nat} {l : List Spt} {cr : Int} {w : World} (h : SetAt w p g l cr) (A : Option Addr) (n c : Nat) (xs : List Int) (r : Rd w .u32 A n xs) (hnc : n ≤ c) (hn : n ≤ 35184372087808) :
    Calls Tryz.prog 16 #[.pointer (some ⟨p, 0, none⟩), .slice A n c] w (ChangeO w p g l cr n xs) := by
  have HT := Lib.hid h
  have HR := Lib.hid r
  have HPUT := Lib.hid (putspots_any A n c xs w r hnc hn)
  clear h r hn
  go_enter Tryz.func16, Tryz.ntmps16
  go_wp2_with fail
  refine (there_set HT.out).mono ?_; rintro e w' ⟨rfl, rfl⟩
  go_wp2_with fail
  refine HPUT.out.mono ?_; rintro e w1 ⟨(⟨hok, G0, hG0, rfl, hk0⟩ | ⟨hno, rfl⟩), hB1⟩
  rotate_left
  · have HB1 := Lib.hid hB1
    have HNO := Lib.hid hno
    clear hno hB1
    go_wp2_with fail
    go_ret2
    exact .inl ⟨HNO.out, rfl, HT.out.below HB1.out, HB1.out⟩
  have hn4 : 1 ≤ n ∧ n ≤ 4 := ⟨hok.1, hok.2.1⟩
  have HOK := Lib.hid hok
  have hl : xs.length = n := HR.out.len
  have HL := Lib.hid hl
  obtain ⟨b, off, rfl, hbl, hcell⟩ := HR.out.row (by omega)
  have HB1 := Lib.hid hB1
  have HBL := Lib.hid hbl
  have HCELL := Lib.hid hcell
  clear hok hG0 hk0 hB1 hl hbl hcell
  go_wp2_with ((with_reducible refine wpList_isS (o := ⟨some 25, .makeSlice _ _ _, _, _, _, _⟩) ?_); refine wpList_makeS rfl _ _ rfl n hn4 rfl rfl ?_; intro w2 HK2 HB12; obtain ⟨G, hG⟩ : ∃ G, w1.heap.size = G := ⟨_, rfl⟩; rw [hG] at HK2 ⊢)
  have hBg : w.heap.size ≤ G := by rw [← hG]; exact HB1.out.size
  have HB2 := Lib.hid (HB1.out.trans (HB12.out.mono HB1.out.size))
  have HBG := Lib.hid hBg
  have HGL := Lib.hid (show b < w1.heap.size from Nat.lt_of_lt_of_le HBL.out HB1.out.size)
  have HPG := Lib.hid (show p < G by have := HT.out.set.lt; omega)
  have HGG := Lib.hid (show g < G by have := HT.out.row.lt; omega)
  have HBGb := Lib.hid (show b < G by have := HGL.out; omega)
  have HSUM := Lib.hid (show ∀ s ∈ l, ∀ q, s.sum = some q → q.1 < G from fun s hs q hq => by have := (HT.out.sum s hs q hq).1.lt; omega)
  have HT2 := Lib.hid (HT.out.below HB2.out)
  have HR2 : Hid (∀ j, j < n → w2.cell? ⟨b, off + j, none⟩ = some (.int .u32 (xs[j]?.getD 0))) := Lib.hid (fun j hj => (HB2.out.cell (p := ⟨b, off + j, none⟩) HBL.out).trans (HCELL.out j hj))
  clear hG hBg
  go_loopw [4, 28] (fun v i wr => ∃ k : Nat, k ≤ n ∧ i = .int .i64 k ∧ wr.ownsRow w.heap.size 23 1 v (othersL l (xs.take k)).length ((othersL l (xs.take k)).map (Value.int .u32)) ∧ (othersL l (xs.take k) = [] → v = .slice none 0 0) ∧ Blk wr G 74 (rowS (soFar l xs n k)) ∧ Below w.heap.size w wr) (fun _ i _ => n - (intOf i).toNat)
  case atStart =>
    refine ⟨0, Nat.zero_le _, rfl, own_nil _ _ _ _, fun _ => rfl, ?_, HB2.out⟩
    have := HK2.out
    simpa [soFar, changeL] using this
  case round =>
    obtain ⟨k, hk, rfl, ho, hz, hkb, hB⟩ := hrel
    by_cases hlt : k < n
    · obtain ⟨a, ha⟩ : ∃ a, xs[k]? = some a := ⟨_, List.getElem?_eq_getElem (by rw [HL.out]; exact hlt)⟩
      have ca : wr.cell? ⟨b, off + k, none⟩ = some (.int .u32 a) := by
        have := (hB.cell (p := ⟨b, off + k, none⟩) HBL.out).trans (HCELL.out k hlt)
        rwa [ha] at this
      have hT := HT.out.below hB
      have HF := Lib.hid (findAt_any hT a)
      have hne := own_blk_ne ho hkb (by decide)
      have hbase := own_base ho
      have hnx := soFar_next (l := l) HL.out hlt ha
      have hox := others_next (l := l) ha
      have hol := others_len l (xs.take k)
      have hsl := soFar_len (l := l) HL.out hk
      obtain ⟨AV, cv, rfl, hmc, hcm, -⟩ := own_slice ho
      obtain ⟨m, hm⟩ : ∃ m, (othersL l (xs.take k)).length = m := ⟨_, rfl⟩
      have hm4 : m ≤ 4 := by simp at hol; omega
      rw [hm] at ho hmc hz hne hbase ⊢
      obtain ⟨ys, hys⟩ : ∃ ys, othersL l (xs.take k) = ys := ⟨_, rfl⟩
      obtain ⟨L, hL⟩ : ∃ L, soFar l xs n k = L := ⟨_, rfl⟩
      rw [hys] at ho hz hox hm
      rw [hL] at hkb hnx hsl
      have HO := Lib.hid ho
      have HZ := Lib.hid hz
      have HKB := Lib.hid hkb
      have HB := Lib.hid hB
      have HNE := Lib.hid hne
      have HBASE := Lib.hid hbase
      have HNX := Lib.hid hnx
      have HOX := Lib.hid hox
      have HSL := Lib.hid hsl
      have HM := Lib.hid hm
      have HU := Lib.hid Tryz.underlying74
      have HBA := Lib.hid (new_belowS wr (.cells #[.int .u32 a] 23))
      have i0 : (0 : Int) ≤ (k : Int) := by omega
      have i1 : (k : Int) < (n : Int) := by omega
      clear ha hT hne hbase hnx hox hol hsl ho hz hkb hB hys hL hm
      go_wp2_with fail
      refine (at_any a wr).mono ?_; rintro e w' ⟨rfl, rfl⟩
      go_wp2_with fail
      refine HF.out.mono ?_; rintro e w3 ⟨hr, hB3⟩
      have HB3r := Lib.hid (HBA.out.trans (hB3.mono HBA.out.size))
      have HB3 := Lib.hid (HB.out.trans (HB3r.out.mono HB.out.size))
      have HKB3 := Lib.hid (HKB.out.below HB3r.out HKB.out.lt)
      have HO3 := Lib.hid ((Keeps.of_below (M := fun _ => False) HB3r.out).own HO.out (fun _ _ h => h))
      clear hB3 HF HBA
      rcases hr with ⟨i, s, hi, hq, hp, rfl⟩ | ⟨hno, Y, hY, rfl, hkY⟩
      · have hfs := find_first hi hq hp
        have HNOW : Hid (nowS l a = s) := Lib.hid (by unfold nowS; rw [hfs]; rfl)
        have HNON : Hid ((l.find? (isAt a)).isNone = false) := Lib.hid (by rw [hfs]; rfl)
        have HRG := Lib.hid ((HT.out.below HB3.out).range hi (o := 3 * i) (by omega))
        have hsz : (Tryz.prog.info? 74).map (·.size) = some (spC s).length := size_spt
        have HSZ := Lib.hid hsz
        clear hi hq hp hfs hsz
        go_wp2_with (first
          | ((with_reducible refine wpList_isS (o := ⟨some 44, .load _ _, _, _, _, _⟩) ?_); refine wpList_load_mid rfl 74 _ rfl g (3 * i) rfl (spC s) _ HRG.out HU.out rfl HSZ.out ?_)
          | ((with_reducible refine wpList_isS (o := ⟨none, .store 74 _ _, _, _, _, _⟩) ?_); refine wpList_putS rfl _ _ rfl G k (k * 3) L s rfl (by omega) rfl HKB3.out (by rw [HSL.out]; exact hlt) ?_; intro w4 HK4 hk4))
        go_roundw
        case rel =>
          have hn4' : ∀ i, i = G → w.heap.size ≤ i := fun i hi => by rw [hi]; exact HBG.out
          refine ⟨k + 1, by omega, by go_num, ?_, ?_, ?_, below_keeps HB3.out hk4.out (Nat.le_refl _) hn4'⟩
          · rw [HOX.out, HNON.out]
            simp only [Bool.false_eq_true, if_false, List.append_nil]
            rw [HM.out]
            exact hk4.out.own HO3.out (fun j hj e => HNE.out (by rw [hj, e]))
          · rw [HOX.out, HNON.out]
            simp only [Bool.false_eq_true, if_false, List.append_nil]
            exact HZ.out
          · rw [← HNX.out, HNOW.out]; exact HK4.out
        case measure => simp [intOf]; omega
      · have hfs := find_no hno
        have HNOW : Hid (nowS l a = ⟨a, 1, none⟩) := Lib.hid (by unfold nowS; rw [hfs]; rfl)
        have HNON : Hid ((l.find? (isAt a)).isNone = true) := Lib.hid (by rw [hfs]; rfl)
        have HRG : Hid (w3.rangeAt Y 0 (spC ⟨0, 1, none⟩)) := Lib.hid hkY.range
        have hsz : (Tryz.prog.info? 74).map (·.size) = some (spC ⟨0, 1, none⟩).length := size_spt
        have HSZ := Lib.hid hsz
        clear hno hY hkY hfs hsz
        go_wp2_with (first
          | ((with_reducible refine wpList_isS (o := ⟨some 44, .load _ _, _, _, _, _⟩) ?_); refine wpList_load_mid rfl 74 _ rfl Y 0 rfl (spC ⟨0, 1, none⟩) _ HRG.out HU.out rfl HSZ.out ?_)
          | ((with_reducible refine wpList_isS (o := ⟨none, .store 74 _ _, _, _, _, _⟩) ?_); refine wpList_putS rfl _ _ rfl G k (k * 3) L ⟨0, 1, none⟩ rfl (by omega) rfl HKB3.out (by rw [HSL.out]; exact hlt) ?_; intro w4 HK4 hk4
             have f0 : w4.cell? ⟨G, k * 3, none⟩ = some (.int .u32 0) := by
               rw [HK4.out.cell, show k * 3 = 3 * k + 0 by omega, rowS_at (L.set k ⟨0, 1, none⟩) k ⟨0, 1, none⟩ (by rw [List.getElem?_set_self (by rw [HSL.out]; exact hlt)]) 0 (by omega)]; rfl
             have f1 : w4.frozen? ⟨G, k * 3, none⟩ = false := HK4.out.free _)
          | (at_builtin
             have HO4 := Lib.hid ((Keeps.set1 w4 ⟨G, k * 3, none⟩ (.int .u32 a)).own (hk4.out.own HO3.out (fun j hj e => HNE.out (by rw [hj, e]))) (fun j hj e => HNE.out (by rw [hj, e])))
             refine append_intAt (W := w4.setCell ⟨G, k * 3, none⟩ (.int .u32 a)) w.heap.size rfl _ _ 50 23 .u32 4 rfl Tryz.underlying50 info_spotS (by omega) (.slice AV m cv) m ys a rfl w4.heap.size (by simp [World.setCell]) rfl HO4.out (Nat.le_trans (Nat.le_trans HB3.out.size hk4.out.size) (Nat.le_of_eq (by simp [World.setCell]))) (by omega) ?_; intro v1 w5 ho5 hk5 _; have HO5 := Lib.hid ho5; have HK5 := Lib.hid hk5; clear ho5 hk5))
        go_roundw
        case rel =>
          have hn4' : ∀ i, i = G → w.heap.size ≤ i := fun i hi => by rw [hi]; exact HBG.out
          have hB4 := below_keeps HB3.out hk4.out (Nat.le_refl _) hn4'
          have hB5 := below_keeps hB4 (Keeps.set1 w4 ⟨G, k * 3, none⟩ (.int .u32 a)) (Nat.le_refl _) hn4'
          have hK5 : Blk (w4.setCell ⟨G, k * 3, none⟩ (.int .u32 a)) G 74 (rowS (soFar l xs n (k + 1))) := by
            have e := rowS_set (L.set k ⟨0, 1, none⟩) k ⟨0, 1, none⟩ ⟨a, 1, none⟩ 0 (.int .u32 a) (by rw [List.getElem?_set_self (by rw [HSL.out]; exact hlt)]) (by omega) rfl
            rw [List.set_set, ← HNOW.out, HNX.out] at e
            have := HK4.out.put (3 * k + 0) (.int .u32 a)
            rw [e, show 3 * k + 0 = k * 3 by omega] at this
            exact this
          refine ⟨k + 1, by omega, by go_num, ?_, ?_, hK5.keep HK5.out (fun e => HNE.out e), below_keeps hB5 HK5.out (Nat.le_refl _) (fun i hi => (HBASE.out i hi).1)⟩
          · rw [HOX.out, HNON.out]
            simp only [if_true]
            rw [List.length_append, HM.out]
            exact HO5.out
          · rw [HOX.out, HNON.out]
            simp only [if_true]
            intro h
            simp at h
        case measure => simp [intOf]; omega
    · obtain rfl : k = n := by omega
      rw [List.take_of_length_le (by rw [HL.out]; omega)] at ho hz
      rw [soFar_end HL.out] at hkb
      have hT := HT.out.below hB
      have c0 := hT.c0
      have fr := hT.free1 0
      obtain ⟨AV, cv, rfl, hmc, hcm, -⟩ := own_slice ho
      have hLR := own_listR ho (fun h0 => by
        have := hz (List.eq_nil_of_length_eq_zero h0)
        injection this)
      obtain ⟨m, hm⟩ : ∃ m, (othersL l xs).length = m := ⟨_, rfl⟩
      have hmem : ∀ x ∈ changeL l xs, x ∈ l ∨ ∃ a ∈ xs, x = ⟨a, 1, none⟩ := fun x hx => by
        obtain ⟨a, ha, rfl⟩ := List.mem_map.1 hx
        rcases nowS_mem l a with h | h
        · exact .inl h
        · exact .inr ⟨a, ha, h⟩
      have hcl : (changeL l xs).length = k := by rw [changeL, List.length_map, HL.out]
      have hS : SetAt (wr.setCell ⟨p, 0, none⟩ (.slice (some ⟨G, 0, none⟩) k k)) p G (changeL l xs) cr := by
        refine ⟨?_, hkb.far (Nat.ne_of_gt HPG.out) _, ?_, by rw [hcl]; exact hn4, ?_, ?_, hT.cred⟩
        · rw [hcl]; exact hT.set.put 0 _
        · intro s hs q hq
          rcases hmem s hs with h | ⟨a, _, rfl⟩
          · exact ⟨(hT.sum s h q hq).1.far (blk_ne (hT.sum s h q hq).1 hT.set (by decide)) _, (hT.sum s h q hq).2⟩
          · cases hq
        · intro s hs
          rcases hmem s hs with h | ⟨a, ha, rfl⟩
          · exact hT.ats s h
          · exact wf_bounds_u32 (HR.out.wf a ha)
        · intro s hs
          rcases hmem s hs with h | ⟨a, _, rfl⟩
          · exact hT.sts s h
          · exact .inl rfl
      have hLR2 : ListR w.heap.size (wr.setCell ⟨p, 0, none⟩ (.slice (some ⟨G, 0, none⟩) k k)) (othersL l xs) AV := ⟨fun h0 => by
        obtain ⟨G', cells, h1, h2, h3, h4⟩ := hLR.1 h0
        exact ⟨G', cells, h1, h2, h3.far (show G' ≠ p by have := HT.out.set.lt; omega) _, h4⟩, hLR.2⟩
      have hKK : Keeps (fun i => i = p) w (wr.setCell ⟨p, 0, none⟩ (.slice (some ⟨G, 0, none⟩) k k)) := (Keeps.of_below (M := fun i => i = p) hB).then_ (M' := fun i => i = p) (Keeps.set1 wr ⟨p, 0, none⟩ _) (fun j hj => .inl hj) |> fun h => h
      have HOW := Lib.hid ((Keeps.set1 wr ⟨p, 0, none⟩ (.slice (some ⟨G, 0, none⟩) k k)).own ho (fun i hi h => own_blk_ne ho hT.set (by decide) (by rw [hi, h])))
      have HS := Lib.hid hS
      have HLR := Lib.hid hLR2
      have HKK := Lib.hid hKK
      have HM := Lib.hid hm
      rw [hm] at hmc HOW ⊢
      clear ho hz hkb hB hT hLR hLR2 hKK hS hmem hcl hm
      go_wp2_with (refine (clipSp_all _ _ _ _ hmc).mono ?_; rintro e w' ⟨rfl, rfl⟩)
      go_ret2
      exact .inr ⟨HOK.out, AV, G, by rw [HM.out]; rfl, HLR.out, HBG.out, HS.out, HKK.out, cv, by rw [HM.out]; exact HOW.out⟩
theorem change_any {p g : Nat} {l : List Spt} {cr : Int} {w : World} (h : SetAt w p g l cr) (A : Option Addr) (n c : Nat) (xs : List Int) (r : Rd w .u32 A n xs) (hnc : n ≤ c) (hn : n ≤ 35184372087808) :
    Calls Tryz.prog 16 #[.pointer (some ⟨p, 0, none⟩), .slice A n c] w (ChangeS w p g l cr n xs) :=
  (change_own h A n c xs r hnc hn).mono fun e w' hh => by
    rcases hh with h1 | ⟨h1, A', G, h2, h3, h4, h5, h6, -⟩
    · exact .inl h1
    · exact .inr ⟨h1, A', G, h2, h3, h4, h5, h6⟩
end Go.Proofs.YtgecfcdafbedaaaGreatDoor

namespace Go.Proofs.YtgecfcdafbedaaaGreatDoor
set_option linter.unusedSimpArgs false
set_option linter.unusedVariables false

/-- A spot, as the program and as the document holds it. -/
structure One (s : Spt) (r : Rs) : Prop where
  at_ : r.at_ = s.at_
  st : s.st = 1 ∨ s.st = 2
  sure : r.sure = (s.st == 2)
  asked : s.st = 1 → r.asked = s.sum.isSome
  sum : s.st = 1 → ∀ q, s.sum = some q → r.sum = q.2
def Alike : List Spt → List Rs → Prop
  | [], [] => True
  | s :: L, r :: R => One s r ∧ Alike L R
  | _, _ => False
theorem alike_start (f : Int) : Alike [⟨f, 2, none⟩] [⟨f, true, false, List.replicate 32 0⟩] :=
  ⟨⟨rfl, .inr rfl, rfl, fun h => by simp at h, fun h => by simp at h⟩, trivial⟩
theorem alike_ats : ∀ {L : List Spt} {R : List Rs}, Alike L R → R.map (·.at_) = L.map (·.at_)
  | [], [], _ => rfl
  | s :: L, r :: R, h => by rw [List.map_cons, List.map_cons, alike_ats h.2, h.1.at_]
  | [], _ :: _, h => h.elim
  | _ :: _, [], h => h.elim
theorem alike_find {q : Spt → Bool} {q' : Rs → Bool} (hq : ∀ s r, One s r → q s = q' r) : ∀ {L : List Spt} {R : List Rs}, Alike L R → (L.find? q = none ∧ R.find? q' = none) ∨ ∃ s r, L.find? q = some s ∧ R.find? q' = some r ∧ One s r
  | [], [], _ => .inl ⟨rfl, rfl⟩
  | s :: L, r :: R, h => by
    rw [List.find?_cons, List.find?_cons, ← hq s r h.1]
    cases hs : q s with
    | true => exact .inr ⟨s, r, rfl, rfl, h.1⟩
    | false => exact alike_find hq h.2
  | [], _ :: _, h => h.elim
  | _ :: _, [], h => h.elim
theorem alike_upd {q : Spt → Bool} {q' : Rs → Bool} {f : Spt → Spt} {f' : Rs → Rs} (hq : ∀ s r, One s r → q s = q' r) (hf : ∀ s r, One s r → q s = true → One (f s) (f' r)) : ∀ {L : List Spt} {R : List Rs}, Alike L R → Alike (updF q f L) (updG q' f' R)
  | [], [], _ => trivial
  | s :: L, r :: R, h => by
    rw [updF, updG, ← hq s r h.1]
    cases hs : q s with
    | true => exact ⟨hf s r h.1 hs, h.2⟩
    | false => exact ⟨h.1, alike_upd hq hf h.2⟩
  | [], _ :: _, h => h.elim
  | _ :: _, [], h => h.elim
theorem one_isAt (a : Int) (s : Spt) (r : Rs) (h : One s r) : isAt a s = isR a r := by unfold isAt isR; rw [h.at_]
theorem one_isSum (bs : List Int) (s : Spt) (r : Rs) (h : One s r) : isSum bs s = isRS bs r := by
  unfold isSum isRS
  rw [h.sure]
  rcases h.st with h1 | h1
  · rw [h.asked h1, h1]
    cases hs : s.sum with
    | none => rfl
    | some q => rw [h.sum h1 q hs]; rfl
  · rw [h1]; rfl
theorem one_sure (s : Spt) (r : Rs) (h : One s r) : isSure s = r.sure := by unfold isSure; rw [h.sure]
section
variable {L : List Spt} {R : List Rs}
theorem alike_state (h : Alike L R) (a : Int) : rstateOf R a = stateOf L a := by
  unfold rstateOf stateOf
  rcases alike_find (one_isAt a) h with ⟨h1, h2⟩ | ⟨s, r, h1, h2, ho⟩
  · rw [h1, h2]
  · rw [h1, h2]
    simp only [ho.sure]
    rcases ho.st with h3 | h3 <;> rw [h3] <;> rfl
theorem alike_best (h : Alike L R) : rbestOf R = bestOf L := by
  unfold rbestOf bestOf
  rcases alike_find (q := isSure) (q' := fun r => r.sure) one_sure h with ⟨h1, h2⟩ | ⟨s, r, h1, h2, ho⟩
  · rw [h1, h2]
    have := alike_ats h
    have h3 : R[0]?.map (·.at_) = L[0]?.map (·.at_) := by rw [← List.getElem?_map, ← List.getElem?_map, this]
    simp only [h3]
  · rw [h1, h2]
    simp only [ho.at_]
theorem alike_askE (h : Alike L R) (a : Int) : raskE R a = askE L a := by
  unfold raskE askE
  rcases alike_find (one_isAt a) h with ⟨h1, h2⟩ | ⟨s, r, h1, h2, ho⟩
  · rw [h1, h2]
  · rw [h1, h2]
    simp only [ho.sure]
    rcases ho.st with h3 | h3 <;> rw [h3] <;> rfl
theorem alike_ask (h : Alike L R) (a : Int) (X : Nat) (bs : List Int) : Alike (askL L a X bs) (raskL R a bs) := by
  unfold askL raskL
  rw [alike_askE h]
  split
  · exact alike_upd (f := fun s => ⟨s.at_, s.st, some (X, bs)⟩) (f' := fun s => ⟨s.at_, s.sure, true, bs⟩) (one_isAt a) (fun s r ho _ => ⟨ho.at_, ho.st, ho.sure, fun _ => rfl, fun _ q hq => by injection hq with hq; rw [← hq]⟩) h
  · exact h
theorem alike_backE (h : Alike L R) (bs : List Int) : rbackE R bs = backE L bs := by
  unfold rbackE backE
  rcases alike_find (one_isSum bs) h with ⟨h1, h2⟩ | ⟨s, r, h1, h2, ho⟩
  · rw [h1, h2]
  · rw [h1, h2]
    simp only [ho.at_]
theorem alike_back (h : Alike L R) (bs : List Int) : Alike (backL L bs) (rbackL R bs) :=
  alike_upd (f := fun s => ⟨s.at_, 2, s.sum⟩) (f' := fun s => ⟨s.at_, true, s.asked, s.sum⟩) (one_isSum bs) (fun s r ho _ => ⟨ho.at_, .inr rfl, rfl, fun h => by simp at h, fun h => by simp at h⟩) h
theorem alike_spendE (h : Alike L R) (cr b : Int) : rspendE R cr b = spendE L cr b := by unfold rspendE spendE; rw [alike_best h]
theorem alike_spendC (h : Alike L R) (cr b : Int) : rspendC R cr b = spendC L cr b := by unfold rspendC spendC; rw [alike_best h]
theorem alike_now (h : Alike L R) (a : Int) : One (nowS L a) (rnowS R a) := by
  unfold nowS rnowS
  rcases alike_find (one_isAt a) h with ⟨h1, h2⟩ | ⟨s, r, h1, h2, ho⟩
  · rw [h1, h2]
    exact ⟨rfl, .inl rfl, rfl, fun _ => rfl, fun _ q hq => by cases hq⟩
  · rw [h1, h2]; exact ho
theorem alike_change (h : Alike L R) : ∀ xs : List Int, Alike (changeL L xs) (rchangeL R xs)
  | [] => trivial
  | a :: xs => ⟨alike_now h a, alike_change h xs⟩
theorem alike_others (h : Alike L R) (xs : List Int) : rothersL R xs = othersL L xs := by
  unfold rothersL othersL
  congr 1
  funext a
  rcases alike_find (one_isAt a) h with ⟨h1, h2⟩ | ⟨s, r, h1, h2, ho⟩ <;> rw [h1, h2] <;> rfl
end
end Go.Proofs.YtgecfcdafbedaaaGreatDoor
