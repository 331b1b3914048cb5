/- A Book's marks are written into all its lists of bytes. -/
import Derived.Test.YtigcpjjmafpjhaaGreatDoorBookP
namespace Go.Proofs.YtigcpjjmafpjhaaGreatDoor
open Go.RowKit
set_option linter.unusedSimpArgs false
set_option linter.unusedVariables false

def zHb : List Value := [.slice none 0 0, .slice none 0 0, .int .i64 0]
theorem size_hb : (Tryz.prog.info? 70).map (·.size) = some 3 := by kernel_rfl
theorem drew_belowB (w : World) : Below w.heap.size w w.drew := ⟨rfl, rfl, rfl, Nat.le_refl _, fun _ _ => rfl⟩
theorem new_belowB (w : World) (o : Obj) : Below w.heap.size w (w.alloc o) := (Below.refl _ _).alloc (Nat.le_refl _) _
/-- All lists may be held: few, and none too long. -/
structure Fine (base : Nat) (w : World) (hs : List Hb) : Prop where
  unlike : Unlike hs
  n : ∀ (i : Nat) (h : Hb), hs[i]? = some h → 1 ≤ h.n ∧ h.n ≤ 255
  len : ∀ (i : Nat) (h : Hb), hs[i]? = some h → h.len ≤ 1099511627776
/-- Other rows' blocks than this one's. -/
theorem RowIs.keepOther {base : Nat} {w w' : World} {h h2 : Hb} {xs : List Int} {M : Nat → Prop} (hr : RowIs base w h2 xs) (hk : Keeps M w w') (hM : ∀ k, M k → h.l.ownBlock = some k ∨ w.heap.size ≤ k) (hne : ∀ k, h.l.ownBlock = some k → h2.l.ownBlock ≠ some k) : RowIs base w' h2 xs :=
  hr.keep hk (fun k hk2 hm => by
    rcases hM k hm with h1 | h1
    · exact hne k h1 hk2
    · have := (hr.u8 hk2).2.1; omega)
/-- A Book stays as it is while a row of bytes is written. -/
theorem BookAt.keepRow {base B : Nat} {w w' : World} {hs : List Hb} {h : Hb} {xs : List Int} {M : Nat → Prop} (hb : BookAt base w B hs) (hr : RowIs base w h xs) (hk : Keeps M w w') (hM : ∀ k, M k → h.l.ownBlock = some k ∨ w.heap.size ≤ k) : BookAt base w' B hs := by
  refine hb.keep hk (fun hm => ?_) (fun i cur hi hm => ?_)
  · rcases hM B hm with h1 | h1
    · obtain ⟨S, hB, _⟩ := hb.box
      obtain ⟨_, _, cur, h2⟩ := hr.u8 h1
      unfold Blk at hB
      rw [hB] at h2
      injection h2 with h2
      injection h2 with _ h2 _
      exact absurd h2 (by decide)
    · have := hb.lt; omega
  · rcases hM i hm with h1 | h1
    · obtain ⟨_, _, cur2, h2⟩ := hr.u8 h1
      rw [hi] at h2
      injection h2 with h2
      injection h2 with _ h2 _
      exact absurd h2 (by decide)
    · have := (Array.getElem?_eq_some_iff.1 hi).1; omega
theorem marks_succ (h : Hb) (k : Nat) (xs : List Int) (hk : k < xs.length) : (marks h k ++ xs.drop k).set k (h.n : Int) = marks h (k + 1) ++ xs.drop (k + 1) := by
  have hl : (marks h k).length = k := by simp [marks]
  rw [List.set_append, if_neg (by omega), hl, Nat.sub_self, List.drop_eq_getElem_cons hk, List.set_cons_zero]
  have : marks h (k + 1) = marks h k ++ [(h.n : Int)] := by simp [marks, List.replicate_succ']
  rw [this]
  simp

set_option maxRecDepth 100000 in
set_option maxHeartbeats 8000000 in
theorem fill_any (base B : Nat) (hs : List Hb) (w : World) (hb : BookAt base w B hs) (hrow : ∀ (i : Nat) (h : Hb), hs[i]? = some h → ∃ xs, RowIs base w h xs) (hf : Fine base w hs) (hbase : base ≤ w.heap.size) :
    Calls Tryz.prog 26 #[.pointer (some ⟨B, 0, none⟩)] w fun e w' => e = .returned (.tuple #[]) ∧ BookAt base w' B hs ∧ (∀ (i : Nat) (h : Hb), hs[i]? = some h → RowIs base w' h (marks h h.len)) ∧ Keeps (fun i => base ≤ i) w w' := by
  have hu : Tryz.prog.underlying 70 = some (.struct _) := Tryz.underlying70
  have HB_ := Lib.hid hb
  have HROW := Lib.hid hrow
  have HF := Lib.hid hf
  have HU := Lib.hid hu
  have HBA := Lib.hid hbase
  obtain ⟨N, hN⟩ : ∃ N, hs.length = N := ⟨_, rfl⟩
  have HN := Lib.hid hN
  have hfew : N ≤ 100 := by rw [← hN]; exact hb.few
  clear hb hrow hf hu hbase hN
  go_enter Tryz.func26, Tryz.ntmps26
  go_wp2_with fail
  go_loopw [2] (fun s wr => ∃ j : Nat, j ≤ N ∧ s = .int .i64 j ∧ BookAt base wr B hs ∧ (∀ (i : Nat) (h : Hb), i < j → hs[i]? = some h → RowIs base wr h (marks h h.len)) ∧ (∀ (i : Nat) (h : Hb), j ≤ i → hs[i]? = some h → ∃ xs, RowIs base wr h xs) ∧ Keeps (fun i => base ≤ i) w wr) (fun s _ => N - (intOf s).toNat)
  case atStart => exact ⟨0, Nat.zero_le _, rfl, HB_.out, fun i h hi => absurd hi (by omega), fun i h _ hi => HROW.out i h hi, Keeps.refl _ _⟩
  case round =>
    obtain ⟨j, hj, rfl, hbk, hdone, htodo, hkp⟩ := hrel
    by_cases hlt : j < N
    · obtain ⟨h, hh⟩ : ∃ h, hs[j]? = some h := ⟨_, List.getElem?_eq_getElem (by rw [HN.out]; exact hlt)⟩
      obtain ⟨gS, cS, hB, hcS, hgS, hbS, hcurS, hrowS⟩ := hbk.at_ hh
      obtain ⟨xs, hxs⟩ := htodo j h (Nat.le_refl _) hh
      have hxl := hxs.len
      have hn := HF.out.n j h hh
      have hlen := HF.out.len j h hh
      have hB1 := hB.cell 1
      simp only [bookC, List.getElem?_cons_succ, List.getElem?_cons_zero] at hB1
      rw [HN.out] at hB1
      have hy3 : (hbC h).length = 3 := rfl
      have hs3 : (Tryz.prog.info? 70).map (·.size) = some (hbC h).length := size_hb
      have hs4 : (Tryz.prog.info? 70).map (·.size) = some (hbC h).toArray.size := size_hb
      have h1 : (hbC h).toArray.all (·.oneCell') = true := all_oneCell_toArray (hbC_one h)
      have HK4 : Hid (Blk (wr.alloc (.cells zHb.toArray 70)) wr.heap.size 70 zHb) := Lib.hid (Blk.new wr 70 zHb)
      have HTH : Hid ((wr.alloc (.cells zHb.toArray 70)).there wr.heap.size 0 (hbC h).toArray.size) := Lib.hid (HK4.out.there 0 _ (by simp [zHb, hbC]))
      have hk5 : Blk ((wr.alloc (.cells zHb.toArray 70)).setCells wr.heap.size 0 (hbC h)) wr.heap.size 70 (hbC h) := by
        have := Blk.setCells (hbC h) 0 _ _ HK4.out (by simp [zHb, hbC])
        rwa [splice_whole _ _ (by simp [zHb, hbC])] at this
      have hB5 : Below wr.heap.size wr ((wr.alloc (.cells zHb.toArray 70)).setCells wr.heap.size 0 (hbC h)) := below_keeps (new_belowB _ _) (Keeps.setCells (g := wr.heap.size) _ 0 _) (Nat.le_refl _) (fun i hi => by have e : i = wr.heap.size := hi; omega)
      obtain ⟨w5, hw5⟩ : ∃ w5, (wr.alloc (.cells zHb.toArray 70)).setCells wr.heap.size 0 (hbC h) = w5 := ⟨_, rfl⟩
      rw [hw5] at hk5 hB5
      have HW5 := Lib.hid hw5
      have HBK5 := Lib.hid (hbk.below hB5)
      have HX5 := Lib.hid (hxs.below hB5)
      have HK5 := Lib.hid hk5
      have HROWS := Lib.hid (hrowS _ rfl)
      have HS3 := Lib.hid hs3
      have HS4 := Lib.hid hs4
      have H1 := Lib.hid h1
      have HH := Lib.hid hh
      have HDONE := Lib.hid (fun (i : Nat) (h2 : Hb) (hi : i < j) (hi2 : hs[i]? = some h2) => (hdone i h2 hi hi2).below hB5)
      have HTODO : Hid (∀ (i : Nat) (h2 : Hb), j ≤ i → hs[i]? = some h2 → ∃ xs, RowIs base w5 h2 xs) := Lib.hid (fun i h2 hi hi2 => by
        obtain ⟨ys, hys⟩ := htodo i h2 hi hi2
        exact ⟨ys, hys.below hB5⟩)
      have HKP := Lib.hid (hkp.below hB5)
      have c0 : w5.cell? ⟨wr.heap.size, 0, none⟩ = some (.slice h.A h.len h.cap) := HK5.out.cell 0
      have c2 : w5.cell? ⟨wr.heap.size, 2, none⟩ = some (.int .i64 (h.n : Int)) := HK5.out.cell 2
      have HG : Hid (∀ k, h.l.ownBlock = some k → k ≠ wr.heap.size) := Lib.hid (fun k hk => by have := (hxs.u8 hk).2.1; omega)
      obtain ⟨Y, hY⟩ : ∃ Y, hbC h = Y := ⟨_, rfl⟩
      obtain ⟨Z, hZ⟩ : ∃ Z, zHb = Z := ⟨_, rfl⟩
      have HZ := Lib.hid hZ
      rw [hY] at HROWS HS3 HS4 H1 HTH HW5
      rw [hZ] at HTH HW5
      have j0 : (0 : Int) ≤ (j : Int) := by omega
      have j1 : (j : Int) < (N : Int) := by omega
      have jadd : IntKind.i64.wrap ((j : Int) + 1) = (j : Int) + 1 := IntWalk.i64_in _ (by omega)
      clear hk5 hB5 hw5 hY hZ hbk hrowS hcurS hxs hs3 hs4 h1 hh hdone htodo hkp hB hy3 HK4
      go_wp2_with (first
        | (refine wpList_load_mid rfl 70 _ rfl gS (j * 3) rfl Y _ HROWS.out HU.out rfl HS3.out ?_)
        | (refine wpList_value (o := ⟨some 3, .alloc 70, _, _, _, _⟩) (v := .pointer (some ⟨wr.heap.size, 0, none⟩)) (w' := wr.alloc (.cells zHb.toArray 70)) rfl (by kernel_rfl) ?_; rw [HZ.out])
        | (refine wpList_store_mid rfl 70 _ _ rfl wr.heap.size 0 Y.toArray rfl rfl HTH.out HS4.out H1.out ?_; rw [show Y.toArray.toList = Y from rfl, HW5.out]))
      clear HW5 HTH HROWS hgS hB1
      generalize wr.heap.size = G at *
      clear wr
      go_loopw [4] (fun s wr => ∃ k : Nat, k ≤ h.len ∧ s = .int .i64 k ∧ RowIs base wr h (marks h k ++ xs.drop k) ∧ Keeps (fun x => h.l.ownBlock = some x) w5 wr) (fun s _ => h.len - (intOf s).toNat)
      case atStart => exact ⟨0, Nat.zero_le _, rfl, by simpa [marks] using HX5.out, Keeps.refl _ _⟩
      case round =>
        obtain ⟨k, hk, rfl, hrk, hkk⟩ := hrel
        have hkq := HK5.out.keep hkk (fun hm => HG.out _ hm rfl)
        have q0 : wr.cell? ⟨G, 0, none⟩ = some (.slice h.A h.len h.cap) := hkq.cell 0
        have q2 : wr.cell? ⟨G, 2, none⟩ = some (.int .i64 (h.n : Int)) := hkq.cell 2
        by_cases hkl : k < h.len
        · obtain ⟨g, hA, hlc, hob, hbg, hgl, hcell, hfz⟩ := hrk.at_ (by omega)
          have hgk : wr.drew.cell? ⟨g, k, none⟩ = some (.int .u8 ((marks h k ++ xs.drop k)[k]?.getD 0)) := hcell k hkl
          have hgf : wr.drew.frozen? ⟨g, k, none⟩ = false := hfz k
          have hgG : g ≠ G := HG.out g hob
          have hput : RowIs base (wr.drew.setCell ⟨g, k, none⟩ (.int .u8 (h.n : Int))) h (marks h (k + 1) ++ xs.drop (k + 1)) := by
            have hd : RowIs base wr.drew h (marks h k ++ xs.drop k) := hrk.below (drew_belowB wr)
            have := hd.put (y := (h.n : Int)) hA hkl
            rwa [marks_succ h k xs (by omega)] at this
          have hkp2 : Keeps (fun x => h.l.ownBlock = some x) w5 (wr.drew.setCell ⟨g, k, none⟩ (.int .u8 (h.n : Int))) := hkk.drew.setCell (.inl hob) _
          have hqk := (hkq.drew).keep (Keeps.set1 wr.drew ⟨g, k, none⟩ (.int .u8 (h.n : Int))) (fun e => hgG e.symm)
          have r0 : (wr.drew.setCell ⟨g, k, none⟩ (.int .u8 (h.n : Int))).cell? ⟨G, 0, none⟩ = some (.slice h.A h.len h.cap) := hqk.cell 0
          have r2 : (wr.drew.setCell ⟨g, k, none⟩ (.int .u8 (h.n : Int))).cell? ⟨G, 2, none⟩ = some (.int .i64 (h.n : Int)) := hqk.cell 2
          have HPUT := Lib.hid hput
          have HKP2 := Lib.hid hkp2
          have k0 : (0 : Int) ≤ (k : Int) := by omega
          have k1 : (k : Int) < (h.len : Int) := by omega
          have kadd : IntKind.i64.wrap ((k : Int) + 1) = (k : Int) + 1 := IntWalk.i64_in _ (by omega)
          rw [hA] at q0 r0
          generalize (marks h k ++ xs.drop k)[k]?.getD 0 = old at *
          have R0 := Lib.hid r0
          have R2 := Lib.hid r2
          clear hrk hkk hkq hcell hfz hput hkp2 hqk hob hbg hgl r0 r2
          go_wp2_with fail
          refine wp_region_noPanic ?_
          refine wp_region_held_drew (S := (fun w' => w'.cell? ⟨G, 0, none⟩ = some (.slice (some ⟨g, 0, none⟩) h.len h.cap) ∧ w'.cell? ⟨G, 2, none⟩ = some (.int .i64 (h.n : Int)))) (by kernel_rfl) ?_ (fun hHeld => ?_)
          · ((try dsimp only); refine ⟨?_, ?_⟩ <;> (first | assumption | (go_keep; done)))
          refine wpAnyH_take (i := 0) (oi := ⟨some 28, _, _, _, _, _⟩) (v := ?_) rfl (by kernel_rfl) (by kernel_rfl) (by kernel_rfl) (fun _ _ _ h => False.elim h) (Or.inl ⟨by rfl, ?_⟩) (by assumption) ?_
          rotate_left
          · intro w hSw
            (try dsimp only at hSw)
            go_simp
            all_goals with_reducible rfl
          (try simp only [Act.put, List.setIfInBounds_toArray, List.set_cons_zero, List.set_cons_succ])
          refine wpAnyH_take (i := 1) (oi := ⟨some 29, _, _, _, _, _⟩) (v := ?_) rfl (by kernel_rfl) (by kernel_rfl) (by kernel_rfl) (fun _ _ _ h => False.elim h) (Or.inl ⟨by rfl, ?_⟩) (by assumption) ?_
          rotate_left
          · intro w hSw
            (try dsimp only at hSw)
            go_simp
            all_goals with_reducible rfl
          (try simp only [Act.put, List.setIfInBounds_toArray, List.set_cons_zero, List.set_cons_succ])
          refine wpAnyH_take (i := 2) (oi := ⟨some 30, _, _, _, _, _⟩) (v := ?_) rfl (by kernel_rfl) (by kernel_rfl) (by kernel_rfl) (fun _ _ _ h => False.elim h) (Or.inl ⟨by rfl, ?_⟩) (by assumption) ?_
          rotate_left
          · intro w hSw
            (try dsimp only at hSw)
            go_simp
            all_goals with_reducible rfl
          (try simp only [Act.put, List.setIfInBounds_toArray, List.set_cons_zero, List.set_cons_succ])
          refine wpAnyH_take (i := 3) (oi := ⟨some 31, _, _, _, _, _⟩) (v := ?_) rfl (by kernel_rfl) (by kernel_rfl) (by kernel_rfl) (fun _ _ _ h => False.elim h) (Or.inl ⟨by rfl, ?_⟩) (by assumption) ?_
          rotate_left
          · intro w hSw
            (try dsimp only at hSw)
            go_simp
            all_goals with_reducible rfl
          (try simp only [Act.put, List.setIfInBounds_toArray, List.set_cons_zero, List.set_cons_succ])
          refine wpAnyH_take (i := 4) (oi := ⟨some 32, _, _, _, _, _⟩) (v := ?_) rfl (by kernel_rfl) (by kernel_rfl) (by kernel_rfl) (fun _ _ _ h => False.elim h) (Or.inl ⟨by rfl, ?_⟩) (by assumption) ?_
          rotate_left
          · intro w hSw
            (try dsimp only at hSw)
            go_simp
            all_goals with_reducible rfl
          (try simp only [Act.put, List.setIfInBounds_toArray, List.set_cons_zero, List.set_cons_succ])
          refine wpAnyH_ready (rs := [5]) (by kernel_rfl) (by simp) ?_
          refine AllReadyH.cons (o := ⟨some 33, _, _, _, _, _⟩) rfl (fun K hK => ?_) AllReadyH.nil
          go_simp
          (refine (mark_any h.n _ hn.2).mono ?_; rintro e wm ⟨rfl, rfl⟩)
          (try go_wp2_with fail)
          refine hK.out _ _ ?_ (fun hHeld => ?_)
          · ((try dsimp only); refine ⟨?_, ?_⟩ <;> (first | assumption | (go_keep; done)))
          clear hK K
          (try simp only [Act.put, List.setIfInBounds_toArray, List.set_cons_zero, List.set_cons_succ])
          refine wpAnyH_take (i := 6) (oi := ⟨some 34, _, _, _, _, _⟩) (v := ?_) rfl (by kernel_rfl) (by kernel_rfl) (by kernel_rfl) (fun _ _ _ h => False.elim h) (Or.inl ⟨by rfl, ?_⟩) (by assumption) ?_
          rotate_left
          · intro w hSw
            (try dsimp only at hSw)
            go_simp
            all_goals with_reducible rfl
          (try simp only [Act.put, List.setIfInBounds_toArray, List.set_cons_zero, List.set_cons_succ])
          refine wpAnyH_ready (rs := [7]) (by kernel_rfl) (by simp) ?_
          refine AllReadyH.cons (o := ⟨none, _, _, _, _, _⟩) rfl (fun K hK => ?_) AllReadyH.nil
          go_simp
          (have r0 := R0.out; have r2 := R2.out)
          refine hK.out _ _ ?_ (fun hHeld => ?_)
          · ((try dsimp only); refine ⟨?_, ?_⟩ <;> (first | assumption | (go_keep; done)))
          clear hK K
          (try simp only [Act.put, List.setIfInBounds_toArray, List.set_cons_zero, List.set_cons_succ])
          refine wpAnyH_done (by kernel_rfl) ?_ _
          refine NoPanic.normal ?_
          go_wp2_with fail
          go_roundw
          case rel => exact ⟨k + 1, by omega, by go_num, HPUT.out, HKP2.out⟩
          case measure => simp [intOf]; omega
        · obtain rfl : k = h.len := by omega
          have hrk' : RowIs base wr h (marks h h.len) := by
            have e : xs.drop h.len = [] := List.drop_eq_nil_of_le (by omega)
            rwa [e, List.append_nil] at hrk
          have hmk : ∀ x, (fun x => h.l.ownBlock = some x) x → h.l.ownBlock = some x ∨ w5.heap.size ≤ x := fun x hx => .inl hx
          have hbk2 := HBK5.out.keepRow HX5.out hkk hmk
          have hdone2 : ∀ (i : Nat) (h2 : Hb), i < j + 1 → hs[i]? = some h2 → RowIs base wr h2 (marks h2 h2.len) := fun i h2 hi hi2 => by
            rcases Nat.lt_or_ge i j with hij | hij
            · exact (HDONE.out i h2 hij hi2).keepOther hkk hmk (HF.out.unlike j i h h2 HH.out hi2 (by omega))
            · obtain rfl : i = j := by omega
              rw [HH.out] at hi2
              injection hi2 with hi2
              subst hi2
              exact hrk'
          have htodo2 : ∀ (i : Nat) (h2 : Hb), j + 1 ≤ i → hs[i]? = some h2 → ∃ xs, RowIs base wr h2 xs := fun i h2 hi hi2 => by
            obtain ⟨ys, hys⟩ := HTODO.out i h2 (by omega) hi2
            exact ⟨ys, hys.keepOther hkk hmk (HF.out.unlike j i h h2 HH.out hi2 (by omega))⟩
          have hkp2 : Keeps (fun i => base ≤ i) w wr := HKP.out.trans (hkk.mono (fun x hx => (HX5.out.u8 hx).1))
          have HBK2 := Lib.hid hbk2
          have HD2 := Lib.hid hdone2
          have HT2 := Lib.hid htodo2
          have HKP2 := Lib.hid hkp2
          clear hrk hrk' hkk hkq hmk hbk2 hdone2 htodo2 hkp2
          go_wp2_with fail
          go_roundw
          case rel => exact ⟨j + 1, by omega, by go_num, HBK2.out, HD2.out, HT2.out, HKP2.out⟩
          case measure => simp [intOf]; omega
    · obtain rfl : j = N := by omega
      obtain ⟨S, hSb, hSo⟩ := hbk.box
      obtain ⟨AS, cS, rfl, -⟩ := own_slice hSo
      have hB1 := hSb.cell 1
      simp only [bookC, List.getElem?_cons_succ, List.getElem?_cons_zero] at hB1
      rw [HN.out] at hB1
      have HBK := Lib.hid hbk
      have HD := Lib.hid (fun (i : Nat) (h : Hb) (hi : hs[i]? = some h) => hdone i h (by have := (List.getElem?_eq_some_iff.1 hi).1; have := HN.out; omega) hi)
      have HKP := Lib.hid hkp
      clear hbk hdone htodo hkp hSb hSo
      go_wp2_with fail
      go_end0
      exact ⟨rfl, HBK.out, HD.out, HKP.out⟩
end Go.Proofs.YtigcpjjmafpjhaaGreatDoor
