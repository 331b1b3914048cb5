/- The law GuidesPlay: the walk. -/
import Derived.Test.YtlmlklaleooliaaGSame
import Derived.Deep.LoopGhost
import Derived.Deep.CutBlock
namespace Go.Proofs.Ytlmlklaleooliaa
open Go.RowKit
set_option linter.unusedSimpArgs false
set_option linter.unusedVariables false

theorem size_act : (Try.prog.info? 27).map (·.size) = some 19 := by kernel_rfl
def zAc : Ac := ⟨0, List.replicate 16 0, 0, 0⟩
theorem acC_one (x : Ac) : ∀ v ∈ acC x, v.oneCell' = true := by
  intro v hv
  simp only [acC, List.mem_cons, List.mem_append, List.mem_map, List.not_mem_nil, or_false] at hv
  rcases hv with rfl | ⟨_, _, rfl⟩ | rfl | rfl <;> rfl

set_option maxRecDepth 100000 in
set_option maxHeartbeats 8000000 in
theorem play_at (A : Option Addr) (n c : Nat) (xs : List Ac) (w : World) (h : Acts w A n xs) (hn : n ≤ maxLen) :
    Calls Try.prog 4 #[.slice A n c] w fun e w' => e = .returned (.bool true) ∧ Below w.heap.size w w' := by
  by_cases h200 : 200 < n
  · have h' : (200 : Int) < (n : Int) := by omega
    clear h hn
    go_enter Try.func4, Try.ntmps4
    go_wp2_with fail
    go_ret
    exact ⟨rfl, Below.refl _ _⟩
  · have h' : ¬ (200 : Int) < (n : Int) := by omega
    have H := Lib.hid h
    have huA : Try.prog.underlying 27 = some (.struct _) := Try.underlying27
    have huT : Try.prog.underlying 23 = some (.array 16 5) := Try.underlying23
    have HUA := Lib.hid huA
    have HUT := Lib.hid huT
    clear h hn huA huT
    go_enter Try.func4, Try.ntmps4
    go_wp2_with fail
    refine (new_any w).mono ?_; rintro e w1 ⟨rfl, rfl⟩
    have hst : Pair w ((w.alloc (.cells (tabC eight).toArray 33)).alloc (.cells #[.slice none 0 0] 73)) w.heap.size (w.alloc (.cells (tabC eight).toArray 33)).heap.size eight [] :=
      ⟨(TabAt.new w).below (new_belowG _ _), RefAt.new _ _, ((Below.refl _ _).alloc (Nat.le_refl _) _).alloc (by simp) _, by simp, Nat.le_refl _, by simp⟩
    generalize w.alloc (.cells (tabC eight).toArray 33) = w1 at *
    go_wp2_with fail
    refine (rnew_any w1).mono ?_; rintro e w2 ⟨rfl, rfl⟩
    generalize w1.alloc (.cells #[.slice none 0 0] 73) = w2 at *
    obtain ⟨T, hT⟩ : ∃ T, w.heap.size = T := ⟨_, rfl⟩
    obtain ⟨M, hM⟩ : ∃ M, w1.heap.size = M := ⟨_, rfl⟩
    have hst' : Pair w w2 T M eight [] := by rw [← hT, ← hM]; exact hst
    rw [hT, hM]
    have HST := Lib.hid hst'
    clear hst hst' hT hM
    go_wp2_with fail
    go_loopg [5] n (fun g s5 wr => ∃ i : Nat, i ≤ n ∧ g = n - i ∧ s5 = .int .i64 i ∧ ∃ a l, Pair w wr T M a l ∧ Alike a l)
    case atStart => exact ⟨0, Nat.zero_le _, rfl, rfl, _, _, HST.out, alike_new⟩
    case round =>
      obtain ⟨i, hi, rfl, rfl, a, l, hP, hA⟩ := hrel
      by_cases hlt : i < n
      · obtain ⟨x, hx⟩ : ∃ x, xs[i]? = some x := ⟨_, List.getElem?_eq_getElem (by rw [H.out.len]; exact hlt)⟩
        have hox := H.out.ok x (List.mem_of_getElem? hx)
        obtain ⟨b, off, rfl, hb, hrow⟩ := H.out.at_ hP.below hx
        have i0 : (0 : Int) ≤ (i : Int) := by omega
        have i1 : (i : Int) < (n : Int) := by omega
        have hzl : (acC zAc).length = 19 := rfl
        have hyl : (acC x).length = 19 := acC_length hox.tag
        have hsO : (Try.prog.info? 27).map (·.size) = some (acC x).length := by rw [hyl]; exact size_act
        have hszY : (Try.prog.info? 27).map (·.size) = some (acC x).toArray.size := by simpa [hyl] using size_act
        have hy1 : (acC x).toArray.all (·.oneCell') = true := all_oneCell_toArray (acC_one x)
        have HK4 : Hid (Blk (wr.alloc (.cells (acC zAc).toArray 27)) wr.heap.size 27 (acC zAc)) := Lib.hid (Blk.new wr 27 (acC zAc))
        have HTH : Hid ((wr.alloc (.cells (acC zAc).toArray 27)).there wr.heap.size 0 (acC x).toArray.size) := Lib.hid (HK4.out.there 0 _ (by simp [hyl, hzl]))
        have hk5 : Blk ((wr.alloc (.cells (acC zAc).toArray 27)).setCells wr.heap.size 0 (acC x)) wr.heap.size 27 (acC x) := by
          have := Blk.setCells (acC x) 0 _ _ HK4.out (by omega)
          rwa [splice_whole _ _ (by omega)] at this
        have hP5 : Pair w ((wr.alloc (.cells (acC zAc).toArray 27)).setCells wr.heap.size 0 (acC x)) T M a l := hP.next (below_keeps (new_belowG _ _) (Keeps.setCells (g := wr.heap.size) _ 0 _) (Nat.le_refl _) (fun j hj => by have e : j = wr.heap.size := hj; omega))
        have hXA : XAt ((wr.alloc (.cells (acC zAc).toArray 27)).setCells wr.heap.size 0 (acC x)) wr.heap.size T M x := ⟨hk5, by have := hP.tab.blk.lt; omega, by have := hP.ref.lt; omega⟩
        obtain ⟨w5, hw5⟩ : ∃ w5, (wr.alloc (.cells (acC zAc).toArray 27)).setCells wr.heap.size 0 (acC x) = w5 := ⟨_, rfl⟩
        rw [hw5] at hP5 hXA
        have HW5 := Lib.hid hw5
        have HROW := Lib.hid hrow
        have HSO := Lib.hid hsO
        have HSZY := Lib.hid hszY
        have HY1 := Lib.hid hy1
        have HOX := Lib.hid hox
        have HX := Lib.hid hx
        have HA := Lib.hid hA
        have HP5 := Lib.hid hP5
        have HXA := Lib.hid hXA
        obtain ⟨Y, hY⟩ : ∃ Y, acC x = Y := ⟨_, rfl⟩
        obtain ⟨Z, hZ⟩ : ∃ Z, acC zAc = Z := ⟨_, rfl⟩
        have HZ := Lib.hid hZ
        rw [hY] at HROW HSO HSZY HY1 HTH HW5
        rw [hZ] at HTH HW5
        clear hzl hyl hsO hszY hy1 HK4 hk5 hP5 hXA hw5 hrow hox hx hA hP hY hZ
        go_upto_region 9 with (first
          | (refine wpList_load_mid rfl 27 _ rfl b (off + i * 19) rfl Y _ HROW.out HUA.out rfl HSO.out ?_)
          | (refine wpList_value (o := ⟨some 6, .alloc 27, _, _, _, _⟩) (v := .pointer (some ⟨wr.heap.size, 0, none⟩)) (w' := wr.alloc (.cells (acC zAc).toArray 27)) rfl (by kernel_rfl) ?_; rw [HZ.out])
          | (refine wpList_store_mid rfl 27 _ _ rfl wr.heap.size 0 Y.toArray rfl rfl HTH.out HSZY.out HY1.out ?_; rw [show Y.toArray.toList = Y from rfl, HW5.out]))
        have hp := HXA.out.parts HOX.out.tag
        obtain ⟨p0, p1, p2, p3⟩ := hp
        obtain ⟨kd, hkd⟩ := Int.eq_ofNat_of_zero_le HOX.out.kind.1
        obtain ⟨r, hr⟩ : ∃ r, kd % 6 = r := ⟨_, rfl⟩
        have hr6 : r < 6 := by omega
        have hmod : x.kind.tmod 6 = (r : Int) := by rw [hkd, Int.tmod_eq_emod_of_nonneg (by omega), ← hr]; omega
        generalize x.kind = K at *
        have iadd : IntKind.i64.wrap ((i : Int) + 1) = (i : Int) + 1 := IntWalk.i64_in _ (by omega)
        clear hkd hr
        by_cases h5 : r = 5
        · subst h5
          obtain ⟨a2, l2, HPT, HAT⟩ : ∃ a2 l2, Hid (Pair w w5 T M a2 l2) ∧ Hid (Alike a2 l2) := ⟨a, l, HP5, HA⟩
          go_wp2_with fail
          go_loopg [8] (i + 1) (fun g s8 wq => ∃ k : Nat, k ≤ i + 1 ∧ g = i + 1 - k ∧ s8 = .int .i64 k ∧ Pair w wq T M a2 l2)
          case atStart => exact ⟨0, Nat.zero_le _, rfl, rfl, HPT.out⟩
          case round =>
            obtain ⟨k, hk, rfl, rfl, hPk⟩ := hrel
            by_cases hkl : k < i + 1
            · obtain ⟨y, hy⟩ : ∃ y, xs[k]? = some y := ⟨_, List.getElem?_eq_getElem (by have := H.out.len; omega)⟩
              have hoy := H.out.ok y (List.mem_of_getElem? hy)
              have hrowq : ∀ W, Below w.heap.size w W → W.rangeAt b (off + k * 19 + 1) (y.tag.map (Value.int .u8)) := fun W hW => by
                obtain ⟨b2, off2, eb, _, hr2⟩ := H.out.at_ hW hy
                injection eb with eb
                injection eb with e1 e2
                subst e1 e2
                exact (ac_at hr2 hoy.tag).2.1
              have hszT : (Try.prog.info? 23).map (·.size) = some (y.tag.map (Value.int .u8)).length := by rw [List.length_map, hoy.tag]; kernel_rfl
              have hget := fun W (hP : Pair w W T M a2 l2) => get_tab T a2 y.tag W hP.tab HAT.out.ok hoy.tag
              have hrget := fun W (hP : Pair w W T M a2 l2) => rget_any w.heap.size M l2 y.tag W hP.ref hoy.tag
              have hroom := fun W (hP : Pair w W T M a2 l2) => room_any T a2 y.tag W hP.tab HAT.out.ok hoy.tag
              have hrroom := fun W (hP : Pair w W T M a2 l2) => rroom_any w.heap.size M l2 y.tag W hP.ref hoy.tag
              have hrs := room_same HAT.out y.tag
              rw [hrs] at hroom
              generalize rroomN l2 y.tag = RN at *
              obtain ⟨L, hL⟩ : ∃ L, y.tag.map (Value.int .u8) = L := ⟨_, rfl⟩
              rw [hL] at hrowq hszT hget hrget hroom hrroom
              have HROWQ := Lib.hid hrowq
              have HSZT := Lib.hid hszT
              have HGET := Lib.hid hget
              have HRGET := Lib.hid hrget
              have HROOM := Lib.hid hroom
              have HRROOM := Lib.hid hrroom
              have HPK := Lib.hid hPk
              have k0 : (0 : Int) ≤ (k : Int) := by omega
              have k1 : (k : Int) < (n : Int) := by omega
              have k2 : (k : Int) ≤ (i : Int) := by omega
              have kadd : IntKind.i64.wrap ((k : Int) + 1) = (k : Int) + 1 := IntWalk.i64_in _ (by omega)
              clear hrowq hszT hget hrget hroom hrroom hrs hL hy hoy hPk
              go_wp2_with (refine wpList_load_mid rfl 23 _ rfl b (off + k * 19 + 1) rfl L _ (HROWQ.out _ HPK.out.below) HUT.out rfl HSZT.out ?_)
              refine (HGET.out _ HPK.out).mono ?_; rintro e wq1 ⟨s1, E1, rfl, hg1, hB1⟩
              have HPK1 := Lib.hid (HPK.out.next hB1)
              clear hB1
              go_wp2_with (refine wpList_load_mid rfl 23 _ rfl b (off + k * 19 + 1) rfl L _ (HROWQ.out _ HPK1.out.below) HUT.out rfl HSZT.out ?_)
              refine (HRGET.out _ HPK1.out).mono ?_; rintro e wq2 ⟨s2, E2, rfl, hg2, hB2⟩
              have HPK2 := Lib.hid (HPK1.out.next hB2).drew
              obtain ⟨rfl, rfl⟩ := get_same HAT.out hg1 hg2
              have hrow2 := HROWQ.out _ HPK2.out.below
              clear hB2 hg1 hg2
              go_wp2_with fail
              refine wp_region_noPanic ?_
              refine wp_region_held_drew (S := (fun w' => w'.rangeAt b (off + k * 19 + 1) L)) (by kernel_rfl) ?_ (fun hHeld => ?_)
              · ((try dsimp only); (first | assumption | (go_keep; done)))
              refine wpAnyH_take (i := 0) (oi := ⟨some 90, _, _, _, _, _⟩) (v := ?_) rfl (by kernel_rfl) (by kernel_rfl) (by kernel_rfl) (fun _ _ _ h => False.elim h) (Or.inl ⟨by rfl, ?_⟩) (by assumption) ?_
              rotate_left
              · intro w hSw
                (try dsimp only at hSw)
                go_simp
                all_goals with_reducible rfl
              (try simp only [Act.put, List.setIfInBounds_toArray, List.set_cons_zero, List.set_cons_succ])
              refine wpAnyH_take (i := 1) (oi := ⟨some 91, _, _, _, _, _⟩) (v := ?_) rfl (by kernel_rfl) (by kernel_rfl) (by kernel_rfl) (fun _ _ _ h => False.elim h) (Or.inl ⟨by rfl, ?_⟩) (by assumption) ?_
              rotate_left
              · intro w hSw
                (try dsimp only at hSw)
                go_simp
                all_goals with_reducible rfl
              (try simp only [Act.put, List.setIfInBounds_toArray, List.set_cons_zero, List.set_cons_succ])
              refine wpAnyH_take (i := 2) (oi := ⟨some 92, _, _, _, _, _⟩) (v := ?_) rfl (by kernel_rfl) (by kernel_rfl) (by kernel_rfl) (fun _ _ _ h => False.elim h) (Or.inl ⟨by rfl, ?_⟩) (by assumption) ?_
              rotate_left
              · intro w hSw
                (try dsimp only at hSw)
                go_simp
                all_goals with_reducible rfl
              (try simp only [Act.put, List.setIfInBounds_toArray, List.set_cons_zero, List.set_cons_succ])
              refine wpAnyH_take (i := 3) (oi := ⟨some 93, _, _, _, _, _⟩) (v := ?_) rfl (by kernel_rfl) (by kernel_rfl) (by kernel_rfl) (fun _ _ _ h => False.elim h) (Or.inl ⟨by rfl, ?_⟩) (by assumption) ?_
              rotate_left
              · intro w hSw
                (try dsimp only at hSw)
                go_simp
                all_goals with_reducible rfl
              (try simp only [Act.put, List.setIfInBounds_toArray, List.set_cons_zero, List.set_cons_succ])
              refine wpAnyH_take (i := 4) (oi := ⟨some 94, _, _, _, _, _⟩) (v := ?_) rfl (by kernel_rfl) (by kernel_rfl) (by kernel_rfl) (fun _ _ _ h => False.elim h) (Or.inl ⟨by rfl, ?_⟩) (by assumption) ?_
              rotate_left
              · intro w hSw
                (try dsimp only at hSw)
                go_simp
                all_goals with_reducible rfl
              (try simp only [Act.put, List.setIfInBounds_toArray, List.set_cons_zero, List.set_cons_succ])
              refine wpAnyH_take (i := 5) (oi := ⟨some 95, _, _, _, _, _⟩) (v := ?_) rfl (by kernel_rfl) (by kernel_rfl) (by kernel_rfl) (fun _ _ _ h => False.elim h) (Or.inl ⟨by rfl, ?_⟩) (by assumption) ?_
              rotate_left
              · intro w hSw
                (try dsimp only at hSw)
                go_simp
                all_goals with_reducible rfl
              (try simp only [Act.put, List.setIfInBounds_toArray, List.set_cons_zero, List.set_cons_succ])
              refine wpAnyH_take (i := 6) (oi := ⟨some 96, _, _, _, _, _⟩) (v := ?_) rfl (by kernel_rfl) (by kernel_rfl) (by kernel_rfl) (fun _ _ _ h => False.elim h) (Or.inl ⟨by rfl, ?_⟩) (by assumption) ?_
              rotate_left
              · intro w hSw
                (try dsimp only at hSw)
                go_simp
                all_goals with_reducible rfl
              (try simp only [Act.put, List.setIfInBounds_toArray, List.set_cons_zero, List.set_cons_succ])
              refine wpAnyH_take (i := 7) (oi := ⟨some 97, _, _, _, _, _⟩) (v := ?_) rfl (by kernel_rfl) (by kernel_rfl) (by kernel_rfl) (fun _ _ _ h => False.elim h) (Or.inl ⟨by rfl, ?_⟩) (by assumption) ?_
              rotate_left
              · intro w hSw
                (try dsimp only at hSw)
                go_simp
                all_goals with_reducible rfl
              (try simp only [Act.put, List.setIfInBounds_toArray, List.set_cons_zero, List.set_cons_succ])
              refine wpAnyH_take (i := 8) (oi := ⟨some 98, _, _, _, _, _⟩) (v := ?_) rfl (by kernel_rfl) (by kernel_rfl) (by kernel_rfl) (fun _ _ _ h => False.elim h) (Or.inl ⟨by rfl, ?_⟩) (by assumption) ?_
              rotate_left
              · intro w hSw
                (try dsimp only at hSw)
                go_simp
                all_goals with_reducible rfl
              (try simp only [Act.put, List.setIfInBounds_toArray, List.set_cons_zero, List.set_cons_succ])
              refine wpAnyH_take (i := 9) (oi := ⟨some 99, _, _, _, _, _⟩) (v := ?_) rfl (by kernel_rfl) (by kernel_rfl) (by kernel_rfl) (fun _ _ _ h => False.elim h) (Or.inl ⟨by rfl, ?_⟩) (by assumption) ?_
              rotate_left
              · intro w hSw
                (try dsimp only at hSw)
                go_simp
                all_goals with_reducible rfl
              (try simp only [Act.put, List.setIfInBounds_toArray, List.set_cons_zero, List.set_cons_succ])
              refine wpAnyH_take (i := 10) (oi := ⟨some 100, _, _, _, _, _⟩) (v := ?_) rfl (by kernel_rfl) (by kernel_rfl) (by kernel_rfl) (fun _ _ _ h => False.elim h) (Or.inl ⟨by rfl, ?_⟩) (by assumption) ?_
              rotate_left
              · intro w hSw
                (try dsimp only at hSw)
                go_simp
                all_goals with_reducible rfl
              (try simp only [Act.put, List.setIfInBounds_toArray, List.set_cons_zero, List.set_cons_succ])
              refine wpAnyH_take (i := 11) (oi := ⟨some 101, _, _, _, _, _⟩) (v := ?_) rfl (by kernel_rfl) (by kernel_rfl) (by kernel_rfl) (fun _ _ _ h => False.elim h) (Or.inl ⟨by rfl, ?_⟩) (by assumption) ?_
              rotate_left
              · intro w hSw
                (try dsimp only at hSw)
                go_simp
                all_goals with_reducible rfl
              (try simp only [Act.put, List.setIfInBounds_toArray, List.set_cons_zero, List.set_cons_succ])
              refine wpAnyH_take (i := 12) (oi := ⟨some 102, _, _, _, _, _⟩) (v := ?_) rfl (by kernel_rfl) (by kernel_rfl) (by kernel_rfl) (fun _ _ _ h => False.elim h) (Or.inl ⟨by rfl, ?_⟩) (by assumption) ?_
              rotate_left
              · intro w hSw
                (try dsimp only at hSw)
                go_simp
                all_goals with_reducible rfl
              (try simp only [Act.put, List.setIfInBounds_toArray, List.set_cons_zero, List.set_cons_succ])
              refine wpAnyH_take (i := 13) (oi := ⟨some 103, _, _, _, _, _⟩) (v := ?_) rfl (by kernel_rfl) (by kernel_rfl) (by kernel_rfl) (fun _ _ _ h => False.elim h) (Or.inl ⟨by rfl, ?_⟩) (by assumption) ?_
              rotate_left
              · intro w hSw
                (try dsimp only at hSw)
                go_simp
                all_goals with_reducible rfl
              (try simp only [Act.put, List.setIfInBounds_toArray, List.set_cons_zero, List.set_cons_succ])
              refine wpAnyH_take (i := 14) (oi := ⟨some 104, _, _, _, _, _⟩) (v := .agg L.toArray) rfl (by kernel_rfl) (by kernel_rfl) (by kernel_rfl) (fun _ _ _ h => False.elim h) ?_ (by assumption) ?_
              · refine yieldsIf_load_mid ?_ 23 _ rfl b (off + k * 19 + 1) rfl L _ ?_ HUT.out rfl HSZT.out
                · rfl
                · (intro w hSw; (try dsimp only at hSw); go_split_ands; assumption)
              (try simp only [Act.put, List.setIfInBounds_toArray, List.set_cons_zero, List.set_cons_succ])
              refine wpAnyH_take (i := 16) (oi := ⟨some 106, _, _, _, _, _⟩) (v := ?_) rfl (by kernel_rfl) (by kernel_rfl) (by kernel_rfl) (fun _ _ _ h => False.elim h) (Or.inl ⟨by rfl, ?_⟩) (by assumption) ?_
              rotate_left
              · intro w hSw
                (try dsimp only at hSw)
                go_simp
                all_goals with_reducible rfl
              (try simp only [Act.put, List.setIfInBounds_toArray, List.set_cons_zero, List.set_cons_succ])
              refine wpAnyH_take (i := 17) (oi := ⟨some 107, _, _, _, _, _⟩) (v := ?_) rfl (by kernel_rfl) (by kernel_rfl) (by kernel_rfl) (fun _ _ _ h => False.elim h) (Or.inl ⟨by rfl, ?_⟩) (by assumption) ?_
              rotate_left
              · intro w hSw
                (try dsimp only at hSw)
                go_simp
                all_goals with_reducible rfl
              (try simp only [Act.put, List.setIfInBounds_toArray, List.set_cons_zero, List.set_cons_succ])
              refine wpAnyH_take (i := 18) (oi := ⟨some 108, _, _, _, _, _⟩) (v := ?_) rfl (by kernel_rfl) (by kernel_rfl) (by kernel_rfl) (fun _ _ _ h => False.elim h) (Or.inl ⟨by rfl, ?_⟩) (by assumption) ?_
              rotate_left
              · intro w hSw
                (try dsimp only at hSw)
                go_simp
                all_goals with_reducible rfl
              (try simp only [Act.put, List.setIfInBounds_toArray, List.set_cons_zero, List.set_cons_succ])
              refine wpAnyH_take (i := 19) (oi := ⟨some 109, _, _, _, _, _⟩) (v := ?_) rfl (by kernel_rfl) (by kernel_rfl) (by kernel_rfl) (fun _ _ _ h => False.elim h) (Or.inl ⟨by rfl, ?_⟩) (by assumption) ?_
              rotate_left
              · intro w hSw
                (try dsimp only at hSw)
                go_simp
                all_goals with_reducible rfl
              (try simp only [Act.put, List.setIfInBounds_toArray, List.set_cons_zero, List.set_cons_succ])
              refine wpAnyH_take (i := 20) (oi := ⟨some 110, _, _, _, _, _⟩) (v := ?_) rfl (by kernel_rfl) (by kernel_rfl) (by kernel_rfl) (fun _ _ _ h => False.elim h) (Or.inl ⟨by rfl, ?_⟩) (by assumption) ?_
              rotate_left
              · intro w hSw
                (try dsimp only at hSw)
                go_simp
                all_goals with_reducible rfl
              (try simp only [Act.put, List.setIfInBounds_toArray, List.set_cons_zero, List.set_cons_succ])
              refine wpAnyH_take (i := 21) (oi := ⟨some 111, _, _, _, _, _⟩) (v := .agg L.toArray) rfl (by kernel_rfl) (by kernel_rfl) (by kernel_rfl) (fun _ _ _ h => False.elim h) ?_ (by assumption) ?_
              · refine yieldsIf_load_mid ?_ 23 _ rfl b (off + k * 19 + 1) rfl L _ ?_ HUT.out rfl HSZT.out
                · rfl
                · (intro w hSw; (try dsimp only at hSw); go_split_ands; assumption)
              (try simp only [Act.put, List.setIfInBounds_toArray, List.set_cons_zero, List.set_cons_succ])
              refine wpAnyH_ready (rs := [15]) (by kernel_rfl) (by simp) ?_
              refine AllReadyH.cons (o := ⟨some 105, _, _, _, _, _⟩) rfl (fun K hK => ?_) AllReadyH.nil
              go_simp
              (refine (HROOM.out _ HPK2.out).mono ?_; rintro e wq3 ⟨rfl, hB3⟩; have HPK3 := Lib.hid (HPK2.out.next hB3); have hrow3 := HROWQ.out _ HPK3.out.below; clear hB3)
              (try go_wp2_with fail)
              refine hK.out _ _ ?_ (fun hHeld => ?_)
              · ((try dsimp only); (first | assumption | (go_keep; done)))
              clear hK K
              (try simp only [Act.put, List.setIfInBounds_toArray, List.set_cons_zero, List.set_cons_succ])
              refine wpAnyH_ready (rs := [22]) (by kernel_rfl) (by simp) ?_
              refine AllReadyH.cons (o := ⟨some 112, _, _, _, _, _⟩) rfl (fun K hK => ?_) AllReadyH.nil
              go_simp
              (refine (HRROOM.out _ HPK3.out).mono ?_; rintro e wq4 ⟨rfl, hB4⟩; have HPK4 := Lib.hid (HPK3.out.next hB4); have hrow4 := HROWQ.out _ HPK4.out.below; clear hB4)
              (try go_wp2_with fail)
              refine hK.out _ _ ?_ (fun hHeld => ?_)
              · ((try dsimp only); (first | assumption | (go_keep; done)))
              clear hK K
              (try simp only [Act.put, List.setIfInBounds_toArray, List.set_cons_zero, List.set_cons_succ])
              refine wpAnyH_take (i := 23) (oi := ⟨some 113, _, _, _, _, _⟩) (v := ?_) rfl (by kernel_rfl) (by kernel_rfl) (by kernel_rfl) (fun _ _ _ h => False.elim h) (Or.inl ⟨by rfl, ?_⟩) (by assumption) ?_
              rotate_left
              · intro w hSw
                (try dsimp only at hSw)
                go_simp
                all_goals with_reducible rfl
              (try simp only [Act.put, List.setIfInBounds_toArray, List.set_cons_zero, List.set_cons_succ])
              refine wpAnyH_take (i := 24) (oi := ⟨some 114, _, _, _, _, _⟩) (v := ?_) rfl (by kernel_rfl) (by kernel_rfl) (by kernel_rfl) (fun _ _ _ h => False.elim h) (Or.inl ⟨by rfl, ?_⟩) (by assumption) ?_
              rotate_left
              · intro w hSw
                (try dsimp only at hSw)
                go_simp
                all_goals with_reducible rfl
              (try simp only [Act.put, List.setIfInBounds_toArray, List.set_cons_zero, List.set_cons_succ])
              refine wpAnyH_done (by kernel_rfl) ?_ _
              refine NoPanic.normal ?_
              go_wp2_with fail
              go_roundg (i + 1 - (k + 1))
              case measure => omega
              case rel => exact ⟨k + 1, by omega, rfl, by go_num, HPK4.out⟩
            · obtain rfl : k = i + 1 := by omega
              have hle : ¬ ((i + 1 : Nat) : Int) ≤ (i : Int) := by omega
              have HPK := Lib.hid hPk
              have HLEN : Hid ((taken a2).length = l2.length) := Lib.hid HAT.out.length.symm
              clear hPk
              go_wp2_with fail
              refine (len_tab T a2 _ HPK.out.tab HAT.out.ok).mono ?_; rintro e wq5 ⟨rfl, hB5⟩
              have HPK5 := Lib.hid (HPK.out.next hB5)
              rw [HLEN.out]
              clear hB5
              go_wp2_with fail
              refine (rlen_any w.heap.size M l2 _ HPK5.out.ref).mono ?_; rintro e wq6 ⟨rfl, rfl⟩
              go_wp2_with fail
              go_roundg (n - (i + 1))
              case measure => omega
              case rel => exact ⟨i + 1, by omega, rfl, by go_num, a2, l2, HPK5.out, HAT.out⟩
        · by_cases h3 : r = 3
          · subst h3
            obtain ⟨tn, htn⟩ := Int.eq_ofNat_of_zero_le HOX.out.ticks.1
            obtain ⟨N, hNr⟩ : ∃ N, tn % 300 = N := ⟨_, rfl⟩
            have hN : x.ticks.tmod 300 = (N : Int) := by rw [htn, Int.tmod_eq_emod_of_nonneg (by omega), ← hNr]; omega
            have hN300 : N < 300 := by omega
            have hNw : IntKind.i64.wrap (N : Int) = N := IntWalk.i64_in _ (by omega)
            obtain ⟨TK, hTK⟩ : ∃ TK, x.ticks = TK := ⟨_, rfl⟩
            have HTK := Lib.hid hTK
            rw [hTK] at hN p3
            clear htn hNr hTK
            go_wp2_with fail
            go_loopg [7] N (fun g s7 wq => ∃ m : Nat, m ≤ N ∧ g = N - m ∧ s7 = .int .i64 m ∧ ∃ a2 l2, Pair w wq T M a2 l2 ∧ Alike a2 l2 ∧ XAt wq wr.heap.size T M x)
            case atStart => exact ⟨0, Nat.zero_le _, rfl, rfl, a, l, HP5.out, HA.out, HXA.out⟩
            case round =>
              obtain ⟨m, hm, rfl, rfl, a2, l2, hP2, hA2, hX2⟩ := hrel
              have q3 := (hX2.parts HOX.out.tag).2.2.2
              rw [HTK.out] at q3
              have HP2 := Lib.hid hP2
              have HA2 := Lib.hid hA2
              have HX2 := Lib.hid hX2
              have madd : IntKind.i64.wrap ((m : Int) + 1) = (m : Int) + 1 := IntWalk.i64_in _ (by omega)
              clear hP2 hA2 hX2
              by_cases hmN : m < N
              · have m1 : (m : Int) < (N : Int) := by omega
                go_wp2_with fail
                refine (tick_tab T a2 _ HP2.out.tab HA2.out.ok).mono ?_; rintro e wt1 ⟨rfl, ht1, hk1⟩
                have HP3 := Lib.hid (HP2.out.tabStep ht1 hk1)
                have HX3 := Lib.hid (HX2.out.tabStep hk1)
                clear ht1 hk1
                go_wp2_with fail
                refine (rtick_any w.heap.size M l2 _ HP3.out.ref HP3.out.base HA2.out.rok).mono ?_; rintro e wt2 ⟨rfl, hr2, hk2⟩
                have HP4 := Lib.hid (HP3.out.refStep hr2 hk2)
                have HX4 := Lib.hid (HX3.out.refStep hk2)
                clear hr2 hk2
                go_wp2_with fail
                go_roundg (N - (m + 1))
                case measure => omega
                case rel => exact ⟨m + 1, by omega, rfl, by go_num, _, _, HP4.out, tick_alike HA2.out, HX4.out⟩
              · obtain rfl : m = N := by omega
                have HPT := HP2
                have HAT := HA2
                go_wp2_with fail
                go_loopg [8] (i + 1) (fun g s8 wq => ∃ k : Nat, k ≤ i + 1 ∧ g = i + 1 - k ∧ s8 = .int .i64 k ∧ Pair w wq T M a2 l2)
                case atStart => exact ⟨0, Nat.zero_le _, rfl, rfl, HPT.out⟩
                case round =>
                  obtain ⟨k, hk, rfl, rfl, hPk⟩ := hrel
                  by_cases hkl : k < i + 1
                  · obtain ⟨y, hy⟩ : ∃ y, xs[k]? = some y := ⟨_, List.getElem?_eq_getElem (by have := H.out.len; omega)⟩
                    have hoy := H.out.ok y (List.mem_of_getElem? hy)
                    have hrowq : ∀ W, Below w.heap.size w W → W.rangeAt b (off + k * 19 + 1) (y.tag.map (Value.int .u8)) := fun W hW => by
                      obtain ⟨b2, off2, eb, _, hr2⟩ := H.out.at_ hW hy
                      injection eb with eb
                      injection eb with e1 e2
                      subst e1 e2
                      exact (ac_at hr2 hoy.tag).2.1
                    have hszT : (Try.prog.info? 23).map (·.size) = some (y.tag.map (Value.int .u8)).length := by rw [List.length_map, hoy.tag]; kernel_rfl
                    have hget := fun W (hP : Pair w W T M a2 l2) => get_tab T a2 y.tag W hP.tab HAT.out.ok hoy.tag
                    have hrget := fun W (hP : Pair w W T M a2 l2) => rget_any w.heap.size M l2 y.tag W hP.ref hoy.tag
                    have hroom := fun W (hP : Pair w W T M a2 l2) => room_any T a2 y.tag W hP.tab HAT.out.ok hoy.tag
                    have hrroom := fun W (hP : Pair w W T M a2 l2) => rroom_any w.heap.size M l2 y.tag W hP.ref hoy.tag
                    have hrs := room_same HAT.out y.tag
                    rw [hrs] at hroom
                    generalize rroomN l2 y.tag = RN at *
                    obtain ⟨L, hL⟩ : ∃ L, y.tag.map (Value.int .u8) = L := ⟨_, rfl⟩
                    rw [hL] at hrowq hszT hget hrget hroom hrroom
                    have HROWQ := Lib.hid hrowq
                    have HSZT := Lib.hid hszT
                    have HGET := Lib.hid hget
                    have HRGET := Lib.hid hrget
                    have HROOM := Lib.hid hroom
                    have HRROOM := Lib.hid hrroom
                    have HPK := Lib.hid hPk
                    have k0 : (0 : Int) ≤ (k : Int) := by omega
                    have k1 : (k : Int) < (n : Int) := by omega
                    have k2 : (k : Int) ≤ (i : Int) := by omega
                    have kadd : IntKind.i64.wrap ((k : Int) + 1) = (k : Int) + 1 := IntWalk.i64_in _ (by omega)
                    clear hrowq hszT hget hrget hroom hrroom hrs hL hy hoy hPk
                    go_wp2_with (refine wpList_load_mid rfl 23 _ rfl b (off + k * 19 + 1) rfl L _ (HROWQ.out _ HPK.out.below) HUT.out rfl HSZT.out ?_)
                    refine (HGET.out _ HPK.out).mono ?_; rintro e wq1 ⟨s1, E1, rfl, hg1, hB1⟩
                    have HPK1 := Lib.hid (HPK.out.next hB1)
                    clear hB1
                    go_wp2_with (refine wpList_load_mid rfl 23 _ rfl b (off + k * 19 + 1) rfl L _ (HROWQ.out _ HPK1.out.below) HUT.out rfl HSZT.out ?_)
                    refine (HRGET.out _ HPK1.out).mono ?_; rintro e wq2 ⟨s2, E2, rfl, hg2, hB2⟩
                    have HPK2 := Lib.hid (HPK1.out.next hB2).drew
                    obtain ⟨rfl, rfl⟩ := get_same HAT.out hg1 hg2
                    have hrow2 := HROWQ.out _ HPK2.out.below
                    clear hB2 hg1 hg2
                    go_wp2_with fail
                    refine wp_region_noPanic ?_
                    refine wp_region_held_drew (S := (fun w' => w'.rangeAt b (off + k * 19 + 1) L)) (by kernel_rfl) ?_ (fun hHeld => ?_)
                    · ((try dsimp only); (first | assumption | (go_keep; done)))
                    refine wpAnyH_take (i := 0) (oi := ⟨some 90, _, _, _, _, _⟩) (v := ?_) rfl (by kernel_rfl) (by kernel_rfl) (by kernel_rfl) (fun _ _ _ h => False.elim h) (Or.inl ⟨by rfl, ?_⟩) (by assumption) ?_
                    rotate_left
                    · intro w hSw
                      (try dsimp only at hSw)
                      go_simp
                      all_goals with_reducible rfl
                    (try simp only [Act.put, List.setIfInBounds_toArray, List.set_cons_zero, List.set_cons_succ])
                    refine wpAnyH_take (i := 1) (oi := ⟨some 91, _, _, _, _, _⟩) (v := ?_) rfl (by kernel_rfl) (by kernel_rfl) (by kernel_rfl) (fun _ _ _ h => False.elim h) (Or.inl ⟨by rfl, ?_⟩) (by assumption) ?_
                    rotate_left
                    · intro w hSw
                      (try dsimp only at hSw)
                      go_simp
                      all_goals with_reducible rfl
                    (try simp only [Act.put, List.setIfInBounds_toArray, List.set_cons_zero, List.set_cons_succ])
                    refine wpAnyH_take (i := 2) (oi := ⟨some 92, _, _, _, _, _⟩) (v := ?_) rfl (by kernel_rfl) (by kernel_rfl) (by kernel_rfl) (fun _ _ _ h => False.elim h) (Or.inl ⟨by rfl, ?_⟩) (by assumption) ?_
                    rotate_left
                    · intro w hSw
                      (try dsimp only at hSw)
                      go_simp
                      all_goals with_reducible rfl
                    (try simp only [Act.put, List.setIfInBounds_toArray, List.set_cons_zero, List.set_cons_succ])
                    refine wpAnyH_take (i := 3) (oi := ⟨some 93, _, _, _, _, _⟩) (v := ?_) rfl (by kernel_rfl) (by kernel_rfl) (by kernel_rfl) (fun _ _ _ h => False.elim h) (Or.inl ⟨by rfl, ?_⟩) (by assumption) ?_
                    rotate_left
                    · intro w hSw
                      (try dsimp only at hSw)
                      go_simp
                      all_goals with_reducible rfl
                    (try simp only [Act.put, List.setIfInBounds_toArray, List.set_cons_zero, List.set_cons_succ])
                    refine wpAnyH_take (i := 4) (oi := ⟨some 94, _, _, _, _, _⟩) (v := ?_) rfl (by kernel_rfl) (by kernel_rfl) (by kernel_rfl) (fun _ _ _ h => False.elim h) (Or.inl ⟨by rfl, ?_⟩) (by assumption) ?_
                    rotate_left
                    · intro w hSw
                      (try dsimp only at hSw)
                      go_simp
                      all_goals with_reducible rfl
                    (try simp only [Act.put, List.setIfInBounds_toArray, List.set_cons_zero, List.set_cons_succ])
                    refine wpAnyH_take (i := 5) (oi := ⟨some 95, _, _, _, _, _⟩) (v := ?_) rfl (by kernel_rfl) (by kernel_rfl) (by kernel_rfl) (fun _ _ _ h => False.elim h) (Or.inl ⟨by rfl, ?_⟩) (by assumption) ?_
                    rotate_left
                    · intro w hSw
                      (try dsimp only at hSw)
                      go_simp
                      all_goals with_reducible rfl
                    (try simp only [Act.put, List.setIfInBounds_toArray, List.set_cons_zero, List.set_cons_succ])
                    refine wpAnyH_take (i := 6) (oi := ⟨some 96, _, _, _, _, _⟩) (v := ?_) rfl (by kernel_rfl) (by kernel_rfl) (by kernel_rfl) (fun _ _ _ h => False.elim h) (Or.inl ⟨by rfl, ?_⟩) (by assumption) ?_
                    rotate_left
                    · intro w hSw
                      (try dsimp only at hSw)
                      go_simp
                      all_goals with_reducible rfl
                    (try simp only [Act.put, List.setIfInBounds_toArray, List.set_cons_zero, List.set_cons_succ])
                    refine wpAnyH_take (i := 7) (oi := ⟨some 97, _, _, _, _, _⟩) (v := ?_) rfl (by kernel_rfl) (by kernel_rfl) (by kernel_rfl) (fun _ _ _ h => False.elim h) (Or.inl ⟨by rfl, ?_⟩) (by assumption) ?_
                    rotate_left
                    · intro w hSw
                      (try dsimp only at hSw)
                      go_simp
                      all_goals with_reducible rfl
                    (try simp only [Act.put, List.setIfInBounds_toArray, List.set_cons_zero, List.set_cons_succ])
                    refine wpAnyH_take (i := 8) (oi := ⟨some 98, _, _, _, _, _⟩) (v := ?_) rfl (by kernel_rfl) (by kernel_rfl) (by kernel_rfl) (fun _ _ _ h => False.elim h) (Or.inl ⟨by rfl, ?_⟩) (by assumption) ?_
                    rotate_left
                    · intro w hSw
                      (try dsimp only at hSw)
                      go_simp
                      all_goals with_reducible rfl
                    (try simp only [Act.put, List.setIfInBounds_toArray, List.set_cons_zero, List.set_cons_succ])
                    refine wpAnyH_take (i := 9) (oi := ⟨some 99, _, _, _, _, _⟩) (v := ?_) rfl (by kernel_rfl) (by kernel_rfl) (by kernel_rfl) (fun _ _ _ h => False.elim h) (Or.inl ⟨by rfl, ?_⟩) (by assumption) ?_
                    rotate_left
                    · intro w hSw
                      (try dsimp only at hSw)
                      go_simp
                      all_goals with_reducible rfl
                    (try simp only [Act.put, List.setIfInBounds_toArray, List.set_cons_zero, List.set_cons_succ])
                    refine wpAnyH_take (i := 10) (oi := ⟨some 100, _, _, _, _, _⟩) (v := ?_) rfl (by kernel_rfl) (by kernel_rfl) (by kernel_rfl) (fun _ _ _ h => False.elim h) (Or.inl ⟨by rfl, ?_⟩) (by assumption) ?_
                    rotate_left
                    · intro w hSw
                      (try dsimp only at hSw)
                      go_simp
                      all_goals with_reducible rfl
                    (try simp only [Act.put, List.setIfInBounds_toArray, List.set_cons_zero, List.set_cons_succ])
                    refine wpAnyH_take (i := 11) (oi := ⟨some 101, _, _, _, _, _⟩) (v := ?_) rfl (by kernel_rfl) (by kernel_rfl) (by kernel_rfl) (fun _ _ _ h => False.elim h) (Or.inl ⟨by rfl, ?_⟩) (by assumption) ?_
                    rotate_left
                    · intro w hSw
                      (try dsimp only at hSw)
                      go_simp
                      all_goals with_reducible rfl
                    (try simp only [Act.put, List.setIfInBounds_toArray, List.set_cons_zero, List.set_cons_succ])
                    refine wpAnyH_take (i := 12) (oi := ⟨some 102, _, _, _, _, _⟩) (v := ?_) rfl (by kernel_rfl) (by kernel_rfl) (by kernel_rfl) (fun _ _ _ h => False.elim h) (Or.inl ⟨by rfl, ?_⟩) (by assumption) ?_
                    rotate_left
                    · intro w hSw
                      (try dsimp only at hSw)
                      go_simp
                      all_goals with_reducible rfl
                    (try simp only [Act.put, List.setIfInBounds_toArray, List.set_cons_zero, List.set_cons_succ])
                    refine wpAnyH_take (i := 13) (oi := ⟨some 103, _, _, _, _, _⟩) (v := ?_) rfl (by kernel_rfl) (by kernel_rfl) (by kernel_rfl) (fun _ _ _ h => False.elim h) (Or.inl ⟨by rfl, ?_⟩) (by assumption) ?_
                    rotate_left
                    · intro w hSw
                      (try dsimp only at hSw)
                      go_simp
                      all_goals with_reducible rfl
                    (try simp only [Act.put, List.setIfInBounds_toArray, List.set_cons_zero, List.set_cons_succ])
                    refine wpAnyH_take (i := 14) (oi := ⟨some 104, _, _, _, _, _⟩) (v := .agg L.toArray) rfl (by kernel_rfl) (by kernel_rfl) (by kernel_rfl) (fun _ _ _ h => False.elim h) ?_ (by assumption) ?_
                    · refine yieldsIf_load_mid ?_ 23 _ rfl b (off + k * 19 + 1) rfl L _ ?_ HUT.out rfl HSZT.out
                      · rfl
                      · (intro w hSw; (try dsimp only at hSw); go_split_ands; assumption)
                    (try simp only [Act.put, List.setIfInBounds_toArray, List.set_cons_zero, List.set_cons_succ])
                    refine wpAnyH_take (i := 16) (oi := ⟨some 106, _, _, _, _, _⟩) (v := ?_) rfl (by kernel_rfl) (by kernel_rfl) (by kernel_rfl) (fun _ _ _ h => False.elim h) (Or.inl ⟨by rfl, ?_⟩) (by assumption) ?_
                    rotate_left
                    · intro w hSw
                      (try dsimp only at hSw)
                      go_simp
                      all_goals with_reducible rfl
                    (try simp only [Act.put, List.setIfInBounds_toArray, List.set_cons_zero, List.set_cons_succ])
                    refine wpAnyH_take (i := 17) (oi := ⟨some 107, _, _, _, _, _⟩) (v := ?_) rfl (by kernel_rfl) (by kernel_rfl) (by kernel_rfl) (fun _ _ _ h => False.elim h) (Or.inl ⟨by rfl, ?_⟩) (by assumption) ?_
                    rotate_left
                    · intro w hSw
                      (try dsimp only at hSw)
                      go_simp
                      all_goals with_reducible rfl
                    (try simp only [Act.put, List.setIfInBounds_toArray, List.set_cons_zero, List.set_cons_succ])
                    refine wpAnyH_take (i := 18) (oi := ⟨some 108, _, _, _, _, _⟩) (v := ?_) rfl (by kernel_rfl) (by kernel_rfl) (by kernel_rfl) (fun _ _ _ h => False.elim h) (Or.inl ⟨by rfl, ?_⟩) (by assumption) ?_
                    rotate_left
                    · intro w hSw
                      (try dsimp only at hSw)
                      go_simp
                      all_goals with_reducible rfl
                    (try simp only [Act.put, List.setIfInBounds_toArray, List.set_cons_zero, List.set_cons_succ])
                    refine wpAnyH_take (i := 19) (oi := ⟨some 109, _, _, _, _, _⟩) (v := ?_) rfl (by kernel_rfl) (by kernel_rfl) (by kernel_rfl) (fun _ _ _ h => False.elim h) (Or.inl ⟨by rfl, ?_⟩) (by assumption) ?_
                    rotate_left
                    · intro w hSw
                      (try dsimp only at hSw)
                      go_simp
                      all_goals with_reducible rfl
                    (try simp only [Act.put, List.setIfInBounds_toArray, List.set_cons_zero, List.set_cons_succ])
                    refine wpAnyH_take (i := 20) (oi := ⟨some 110, _, _, _, _, _⟩) (v := ?_) rfl (by kernel_rfl) (by kernel_rfl) (by kernel_rfl) (fun _ _ _ h => False.elim h) (Or.inl ⟨by rfl, ?_⟩) (by assumption) ?_
                    rotate_left
                    · intro w hSw
                      (try dsimp only at hSw)
                      go_simp
                      all_goals with_reducible rfl
                    (try simp only [Act.put, List.setIfInBounds_toArray, List.set_cons_zero, List.set_cons_succ])
                    refine wpAnyH_take (i := 21) (oi := ⟨some 111, _, _, _, _, _⟩) (v := .agg L.toArray) rfl (by kernel_rfl) (by kernel_rfl) (by kernel_rfl) (fun _ _ _ h => False.elim h) ?_ (by assumption) ?_
                    · refine yieldsIf_load_mid ?_ 23 _ rfl b (off + k * 19 + 1) rfl L _ ?_ HUT.out rfl HSZT.out
                      · rfl
                      · (intro w hSw; (try dsimp only at hSw); go_split_ands; assumption)
                    (try simp only [Act.put, List.setIfInBounds_toArray, List.set_cons_zero, List.set_cons_succ])
                    refine wpAnyH_ready (rs := [15]) (by kernel_rfl) (by simp) ?_
                    refine AllReadyH.cons (o := ⟨some 105, _, _, _, _, _⟩) rfl (fun K hK => ?_) AllReadyH.nil
                    go_simp
                    (refine (HROOM.out _ HPK2.out).mono ?_; rintro e wq3 ⟨rfl, hB3⟩; have HPK3 := Lib.hid (HPK2.out.next hB3); have hrow3 := HROWQ.out _ HPK3.out.below; clear hB3)
                    (try go_wp2_with fail)
                    refine hK.out _ _ ?_ (fun hHeld => ?_)
                    · ((try dsimp only); (first | assumption | (go_keep; done)))
                    clear hK K
                    (try simp only [Act.put, List.setIfInBounds_toArray, List.set_cons_zero, List.set_cons_succ])
                    refine wpAnyH_ready (rs := [22]) (by kernel_rfl) (by simp) ?_
                    refine AllReadyH.cons (o := ⟨some 112, _, _, _, _, _⟩) rfl (fun K hK => ?_) AllReadyH.nil
                    go_simp
                    (refine (HRROOM.out _ HPK3.out).mono ?_; rintro e wq4 ⟨rfl, hB4⟩; have HPK4 := Lib.hid (HPK3.out.next hB4); have hrow4 := HROWQ.out _ HPK4.out.below; clear hB4)
                    (try go_wp2_with fail)
                    refine hK.out _ _ ?_ (fun hHeld => ?_)
                    · ((try dsimp only); (first | assumption | (go_keep; done)))
                    clear hK K
                    (try simp only [Act.put, List.setIfInBounds_toArray, List.set_cons_zero, List.set_cons_succ])
                    refine wpAnyH_take (i := 23) (oi := ⟨some 113, _, _, _, _, _⟩) (v := ?_) rfl (by kernel_rfl) (by kernel_rfl) (by kernel_rfl) (fun _ _ _ h => False.elim h) (Or.inl ⟨by rfl, ?_⟩) (by assumption) ?_
                    rotate_left
                    · intro w hSw
                      (try dsimp only at hSw)
                      go_simp
                      all_goals with_reducible rfl
                    (try simp only [Act.put, List.setIfInBounds_toArray, List.set_cons_zero, List.set_cons_succ])
                    refine wpAnyH_take (i := 24) (oi := ⟨some 114, _, _, _, _, _⟩) (v := ?_) rfl (by kernel_rfl) (by kernel_rfl) (by kernel_rfl) (fun _ _ _ h => False.elim h) (Or.inl ⟨by rfl, ?_⟩) (by assumption) ?_
                    rotate_left
                    · intro w hSw
                      (try dsimp only at hSw)
                      go_simp
                      all_goals with_reducible rfl
                    (try simp only [Act.put, List.setIfInBounds_toArray, List.set_cons_zero, List.set_cons_succ])
                    refine wpAnyH_done (by kernel_rfl) ?_ _
                    refine NoPanic.normal ?_
                    go_wp2_with fail
                    go_roundg (i + 1 - (k + 1))
                    case measure => omega
                    case rel => exact ⟨k + 1, by omega, rfl, by go_num, HPK4.out⟩
                  · obtain rfl : k = i + 1 := by omega
                    have hle : ¬ ((i + 1 : Nat) : Int) ≤ (i : Int) := by omega
                    have HPK := Lib.hid hPk
                    have HLEN : Hid ((taken a2).length = l2.length) := Lib.hid HAT.out.length.symm
                    clear hPk
                    go_wp2_with fail
                    refine (len_tab T a2 _ HPK.out.tab HAT.out.ok).mono ?_; rintro e wq5 ⟨rfl, hB5⟩
                    have HPK5 := Lib.hid (HPK.out.next hB5)
                    rw [HLEN.out]
                    clear hB5
                    go_wp2_with fail
                    refine (rlen_any w.heap.size M l2 _ HPK5.out.ref).mono ?_; rintro e wq6 ⟨rfl, rfl⟩
                    go_wp2_with fail
                    go_roundg (n - (i + 1))
                    case measure => omega
                    case rel => exact ⟨i + 1, by omega, rfl, by go_num, a2, l2, HPK5.out, HAT.out⟩
          · by_cases h4 : r = 4
            · subst h4
              obtain ⟨tn, htn⟩ := Int.eq_ofNat_of_zero_le HOX.out.ticks.1
              obtain ⟨N, hNr⟩ : ∃ N, tn % 300 = N := ⟨_, rfl⟩
              have hN : x.ticks.tmod 300 = (N : Int) := by rw [htn, Int.tmod_eq_emod_of_nonneg (by omega), ← hNr]; omega
              have hN300 : N < 300 := by omega
              have hNw : IntKind.i64.wrap (N : Int) = N := IntWalk.i64_in _ (by omega)
              obtain ⟨TK, hTK⟩ : ∃ TK, x.ticks = TK := ⟨_, rfl⟩
              have HTK := Lib.hid hTK
              rw [hTK] at hN p3
              clear htn hNr hTK
              go_wp2_with fail
              go_loopg [7] N (fun g s7 wq => ∃ m : Nat, m ≤ N ∧ g = N - m ∧ s7 = .int .i64 m ∧ ∃ a2 l2, Pair w wq T M a2 l2 ∧ Alike a2 l2 ∧ XAt wq wr.heap.size T M x)
              case atStart => exact ⟨0, Nat.zero_le _, rfl, rfl, a, l, HP5.out, HA.out, HXA.out⟩
              case round =>
                obtain ⟨m, hm, rfl, rfl, a2, l2, hP2, hA2, hX2⟩ := hrel
                have q3 := (hX2.parts HOX.out.tag).2.2.2
                rw [HTK.out] at q3
                have HP2 := Lib.hid hP2
                have HA2 := Lib.hid hA2
                have HX2 := Lib.hid hX2
                have madd : IntKind.i64.wrap ((m : Int) + 1) = (m : Int) + 1 := IntWalk.i64_in _ (by omega)
                clear hP2 hA2 hX2
                by_cases hmN : m < N
                · have m1 : (m : Int) < (N : Int) := by omega
                  go_wp2_with fail
                  refine (tick_tab T a2 _ HP2.out.tab HA2.out.ok).mono ?_; rintro e wt1 ⟨rfl, ht1, hk1⟩
                  have HP3 := Lib.hid (HP2.out.tabStep ht1 hk1)
                  have HX3 := Lib.hid (HX2.out.tabStep hk1)
                  clear ht1 hk1
                  go_wp2_with fail
                  refine (rtick_any w.heap.size M l2 _ HP3.out.ref HP3.out.base HA2.out.rok).mono ?_; rintro e wt2 ⟨rfl, hr2, hk2⟩
                  have HP4 := Lib.hid (HP3.out.refStep hr2 hk2)
                  have HX4 := Lib.hid (HX3.out.refStep hk2)
                  clear hr2 hk2
                  go_wp2_with fail
                  go_roundg (N - (m + 1))
                  case measure => omega
                  case rel => exact ⟨m + 1, by omega, rfl, by go_num, _, _, HP4.out, tick_alike HA2.out, HX4.out⟩
                · obtain rfl : m = N := by omega
                  have HPT := HP2
                  have HAT := HA2
                  go_wp2_with fail
                  go_loopg [8] (i + 1) (fun g s8 wq => ∃ k : Nat, k ≤ i + 1 ∧ g = i + 1 - k ∧ s8 = .int .i64 k ∧ Pair w wq T M a2 l2)
                  case atStart => exact ⟨0, Nat.zero_le _, rfl, rfl, HPT.out⟩
                  case round =>
                    obtain ⟨k, hk, rfl, rfl, hPk⟩ := hrel
                    by_cases hkl : k < i + 1
                    · obtain ⟨y, hy⟩ : ∃ y, xs[k]? = some y := ⟨_, List.getElem?_eq_getElem (by have := H.out.len; omega)⟩
                      have hoy := H.out.ok y (List.mem_of_getElem? hy)
                      have hrowq : ∀ W, Below w.heap.size w W → W.rangeAt b (off + k * 19 + 1) (y.tag.map (Value.int .u8)) := fun W hW => by
                        obtain ⟨b2, off2, eb, _, hr2⟩ := H.out.at_ hW hy
                        injection eb with eb
                        injection eb with e1 e2
                        subst e1 e2
                        exact (ac_at hr2 hoy.tag).2.1
                      have hszT : (Try.prog.info? 23).map (·.size) = some (y.tag.map (Value.int .u8)).length := by rw [List.length_map, hoy.tag]; kernel_rfl
                      have hget := fun W (hP : Pair w W T M a2 l2) => get_tab T a2 y.tag W hP.tab HAT.out.ok hoy.tag
                      have hrget := fun W (hP : Pair w W T M a2 l2) => rget_any w.heap.size M l2 y.tag W hP.ref hoy.tag
                      have hroom := fun W (hP : Pair w W T M a2 l2) => room_any T a2 y.tag W hP.tab HAT.out.ok hoy.tag
                      have hrroom := fun W (hP : Pair w W T M a2 l2) => rroom_any w.heap.size M l2 y.tag W hP.ref hoy.tag
                      have hrs := room_same HAT.out y.tag
                      rw [hrs] at hroom
                      generalize rroomN l2 y.tag = RN at *
                      obtain ⟨L, hL⟩ : ∃ L, y.tag.map (Value.int .u8) = L := ⟨_, rfl⟩
                      rw [hL] at hrowq hszT hget hrget hroom hrroom
                      have HROWQ := Lib.hid hrowq
                      have HSZT := Lib.hid hszT
                      have HGET := Lib.hid hget
                      have HRGET := Lib.hid hrget
                      have HROOM := Lib.hid hroom
                      have HRROOM := Lib.hid hrroom
                      have HPK := Lib.hid hPk
                      have k0 : (0 : Int) ≤ (k : Int) := by omega
                      have k1 : (k : Int) < (n : Int) := by omega
                      have k2 : (k : Int) ≤ (i : Int) := by omega
                      have kadd : IntKind.i64.wrap ((k : Int) + 1) = (k : Int) + 1 := IntWalk.i64_in _ (by omega)
                      clear hrowq hszT hget hrget hroom hrroom hrs hL hy hoy hPk
                      go_wp2_with (refine wpList_load_mid rfl 23 _ rfl b (off + k * 19 + 1) rfl L _ (HROWQ.out _ HPK.out.below) HUT.out rfl HSZT.out ?_)
                      refine (HGET.out _ HPK.out).mono ?_; rintro e wq1 ⟨s1, E1, rfl, hg1, hB1⟩
                      have HPK1 := Lib.hid (HPK.out.next hB1)
                      clear hB1
                      go_wp2_with (refine wpList_load_mid rfl 23 _ rfl b (off + k * 19 + 1) rfl L _ (HROWQ.out _ HPK1.out.below) HUT.out rfl HSZT.out ?_)
                      refine (HRGET.out _ HPK1.out).mono ?_; rintro e wq2 ⟨s2, E2, rfl, hg2, hB2⟩
                      have HPK2 := Lib.hid (HPK1.out.next hB2).drew
                      obtain ⟨rfl, rfl⟩ := get_same HAT.out hg1 hg2
                      have hrow2 := HROWQ.out _ HPK2.out.below
                      clear hB2 hg1 hg2
                      go_wp2_with fail
                      refine wp_region_noPanic ?_
                      refine wp_region_held_drew (S := (fun w' => w'.rangeAt b (off + k * 19 + 1) L)) (by kernel_rfl) ?_ (fun hHeld => ?_)
                      · ((try dsimp only); (first | assumption | (go_keep; done)))
                      refine wpAnyH_take (i := 0) (oi := ⟨some 90, _, _, _, _, _⟩) (v := ?_) rfl (by kernel_rfl) (by kernel_rfl) (by kernel_rfl) (fun _ _ _ h => False.elim h) (Or.inl ⟨by rfl, ?_⟩) (by assumption) ?_
                      rotate_left
                      · intro w hSw
                        (try dsimp only at hSw)
                        go_simp
                        all_goals with_reducible rfl
                      (try simp only [Act.put, List.setIfInBounds_toArray, List.set_cons_zero, List.set_cons_succ])
                      refine wpAnyH_take (i := 1) (oi := ⟨some 91, _, _, _, _, _⟩) (v := ?_) rfl (by kernel_rfl) (by kernel_rfl) (by kernel_rfl) (fun _ _ _ h => False.elim h) (Or.inl ⟨by rfl, ?_⟩) (by assumption) ?_
                      rotate_left
                      · intro w hSw
                        (try dsimp only at hSw)
                        go_simp
                        all_goals with_reducible rfl
                      (try simp only [Act.put, List.setIfInBounds_toArray, List.set_cons_zero, List.set_cons_succ])
                      refine wpAnyH_take (i := 2) (oi := ⟨some 92, _, _, _, _, _⟩) (v := ?_) rfl (by kernel_rfl) (by kernel_rfl) (by kernel_rfl) (fun _ _ _ h => False.elim h) (Or.inl ⟨by rfl, ?_⟩) (by assumption) ?_
                      rotate_left
                      · intro w hSw
                        (try dsimp only at hSw)
                        go_simp
                        all_goals with_reducible rfl
                      (try simp only [Act.put, List.setIfInBounds_toArray, List.set_cons_zero, List.set_cons_succ])
                      refine wpAnyH_take (i := 3) (oi := ⟨some 93, _, _, _, _, _⟩) (v := ?_) rfl (by kernel_rfl) (by kernel_rfl) (by kernel_rfl) (fun _ _ _ h => False.elim h) (Or.inl ⟨by rfl, ?_⟩) (by assumption) ?_
                      rotate_left
                      · intro w hSw
                        (try dsimp only at hSw)
                        go_simp
                        all_goals with_reducible rfl
                      (try simp only [Act.put, List.setIfInBounds_toArray, List.set_cons_zero, List.set_cons_succ])
                      refine wpAnyH_take (i := 4) (oi := ⟨some 94, _, _, _, _, _⟩) (v := ?_) rfl (by kernel_rfl) (by kernel_rfl) (by kernel_rfl) (fun _ _ _ h => False.elim h) (Or.inl ⟨by rfl, ?_⟩) (by assumption) ?_
                      rotate_left
                      · intro w hSw
                        (try dsimp only at hSw)
                        go_simp
                        all_goals with_reducible rfl
                      (try simp only [Act.put, List.setIfInBounds_toArray, List.set_cons_zero, List.set_cons_succ])
                      refine wpAnyH_take (i := 5) (oi := ⟨some 95, _, _, _, _, _⟩) (v := ?_) rfl (by kernel_rfl) (by kernel_rfl) (by kernel_rfl) (fun _ _ _ h => False.elim h) (Or.inl ⟨by rfl, ?_⟩) (by assumption) ?_
                      rotate_left
                      · intro w hSw
                        (try dsimp only at hSw)
                        go_simp
                        all_goals with_reducible rfl
                      (try simp only [Act.put, List.setIfInBounds_toArray, List.set_cons_zero, List.set_cons_succ])
                      refine wpAnyH_take (i := 6) (oi := ⟨some 96, _, _, _, _, _⟩) (v := ?_) rfl (by kernel_rfl) (by kernel_rfl) (by kernel_rfl) (fun _ _ _ h => False.elim h) (Or.inl ⟨by rfl, ?_⟩) (by assumption) ?_
                      rotate_left
                      · intro w hSw
                        (try dsimp only at hSw)
                        go_simp
                        all_goals with_reducible rfl
                      (try simp only [Act.put, List.setIfInBounds_toArray, List.set_cons_zero, List.set_cons_succ])
                      refine wpAnyH_take (i := 7) (oi := ⟨some 97, _, _, _, _, _⟩) (v := ?_) rfl (by kernel_rfl) (by kernel_rfl) (by kernel_rfl) (fun _ _ _ h => False.elim h) (Or.inl ⟨by rfl, ?_⟩) (by assumption) ?_
                      rotate_left
                      · intro w hSw
                        (try dsimp only at hSw)
                        go_simp
                        all_goals with_reducible rfl
                      (try simp only [Act.put, List.setIfInBounds_toArray, List.set_cons_zero, List.set_cons_succ])
                      refine wpAnyH_take (i := 8) (oi := ⟨some 98, _, _, _, _, _⟩) (v := ?_) rfl (by kernel_rfl) (by kernel_rfl) (by kernel_rfl) (fun _ _ _ h => False.elim h) (Or.inl ⟨by rfl, ?_⟩) (by assumption) ?_
                      rotate_left
                      · intro w hSw
                        (try dsimp only at hSw)
                        go_simp
                        all_goals with_reducible rfl
                      (try simp only [Act.put, List.setIfInBounds_toArray, List.set_cons_zero, List.set_cons_succ])
                      refine wpAnyH_take (i := 9) (oi := ⟨some 99, _, _, _, _, _⟩) (v := ?_) rfl (by kernel_rfl) (by kernel_rfl) (by kernel_rfl) (fun _ _ _ h => False.elim h) (Or.inl ⟨by rfl, ?_⟩) (by assumption) ?_
                      rotate_left
                      · intro w hSw
                        (try dsimp only at hSw)
                        go_simp
                        all_goals with_reducible rfl
                      (try simp only [Act.put, List.setIfInBounds_toArray, List.set_cons_zero, List.set_cons_succ])
                      refine wpAnyH_take (i := 10) (oi := ⟨some 100, _, _, _, _, _⟩) (v := ?_) rfl (by kernel_rfl) (by kernel_rfl) (by kernel_rfl) (fun _ _ _ h => False.elim h) (Or.inl ⟨by rfl, ?_⟩) (by assumption) ?_
                      rotate_left
                      · intro w hSw
                        (try dsimp only at hSw)
                        go_simp
                        all_goals with_reducible rfl
                      (try simp only [Act.put, List.setIfInBounds_toArray, List.set_cons_zero, List.set_cons_succ])
                      refine wpAnyH_take (i := 11) (oi := ⟨some 101, _, _, _, _, _⟩) (v := ?_) rfl (by kernel_rfl) (by kernel_rfl) (by kernel_rfl) (fun _ _ _ h => False.elim h) (Or.inl ⟨by rfl, ?_⟩) (by assumption) ?_
                      rotate_left
                      · intro w hSw
                        (try dsimp only at hSw)
                        go_simp
                        all_goals with_reducible rfl
                      (try simp only [Act.put, List.setIfInBounds_toArray, List.set_cons_zero, List.set_cons_succ])
                      refine wpAnyH_take (i := 12) (oi := ⟨some 102, _, _, _, _, _⟩) (v := ?_) rfl (by kernel_rfl) (by kernel_rfl) (by kernel_rfl) (fun _ _ _ h => False.elim h) (Or.inl ⟨by rfl, ?_⟩) (by assumption) ?_
                      rotate_left
                      · intro w hSw
                        (try dsimp only at hSw)
                        go_simp
                        all_goals with_reducible rfl
                      (try simp only [Act.put, List.setIfInBounds_toArray, List.set_cons_zero, List.set_cons_succ])
                      refine wpAnyH_take (i := 13) (oi := ⟨some 103, _, _, _, _, _⟩) (v := ?_) rfl (by kernel_rfl) (by kernel_rfl) (by kernel_rfl) (fun _ _ _ h => False.elim h) (Or.inl ⟨by rfl, ?_⟩) (by assumption) ?_
                      rotate_left
                      · intro w hSw
                        (try dsimp only at hSw)
                        go_simp
                        all_goals with_reducible rfl
                      (try simp only [Act.put, List.setIfInBounds_toArray, List.set_cons_zero, List.set_cons_succ])
                      refine wpAnyH_take (i := 14) (oi := ⟨some 104, _, _, _, _, _⟩) (v := .agg L.toArray) rfl (by kernel_rfl) (by kernel_rfl) (by kernel_rfl) (fun _ _ _ h => False.elim h) ?_ (by assumption) ?_
                      · refine yieldsIf_load_mid ?_ 23 _ rfl b (off + k * 19 + 1) rfl L _ ?_ HUT.out rfl HSZT.out
                        · rfl
                        · (intro w hSw; (try dsimp only at hSw); go_split_ands; assumption)
                      (try simp only [Act.put, List.setIfInBounds_toArray, List.set_cons_zero, List.set_cons_succ])
                      refine wpAnyH_take (i := 16) (oi := ⟨some 106, _, _, _, _, _⟩) (v := ?_) rfl (by kernel_rfl) (by kernel_rfl) (by kernel_rfl) (fun _ _ _ h => False.elim h) (Or.inl ⟨by rfl, ?_⟩) (by assumption) ?_
                      rotate_left
                      · intro w hSw
                        (try dsimp only at hSw)
                        go_simp
                        all_goals with_reducible rfl
                      (try simp only [Act.put, List.setIfInBounds_toArray, List.set_cons_zero, List.set_cons_succ])
                      refine wpAnyH_take (i := 17) (oi := ⟨some 107, _, _, _, _, _⟩) (v := ?_) rfl (by kernel_rfl) (by kernel_rfl) (by kernel_rfl) (fun _ _ _ h => False.elim h) (Or.inl ⟨by rfl, ?_⟩) (by assumption) ?_
                      rotate_left
                      · intro w hSw
                        (try dsimp only at hSw)
                        go_simp
                        all_goals with_reducible rfl
                      (try simp only [Act.put, List.setIfInBounds_toArray, List.set_cons_zero, List.set_cons_succ])
                      refine wpAnyH_take (i := 18) (oi := ⟨some 108, _, _, _, _, _⟩) (v := ?_) rfl (by kernel_rfl) (by kernel_rfl) (by kernel_rfl) (fun _ _ _ h => False.elim h) (Or.inl ⟨by rfl, ?_⟩) (by assumption) ?_
                      rotate_left
                      · intro w hSw
                        (try dsimp only at hSw)
                        go_simp
                        all_goals with_reducible rfl
                      (try simp only [Act.put, List.setIfInBounds_toArray, List.set_cons_zero, List.set_cons_succ])
                      refine wpAnyH_take (i := 19) (oi := ⟨some 109, _, _, _, _, _⟩) (v := ?_) rfl (by kernel_rfl) (by kernel_rfl) (by kernel_rfl) (fun _ _ _ h => False.elim h) (Or.inl ⟨by rfl, ?_⟩) (by assumption) ?_
                      rotate_left
                      · intro w hSw
                        (try dsimp only at hSw)
                        go_simp
                        all_goals with_reducible rfl
                      (try simp only [Act.put, List.setIfInBounds_toArray, List.set_cons_zero, List.set_cons_succ])
                      refine wpAnyH_take (i := 20) (oi := ⟨some 110, _, _, _, _, _⟩) (v := ?_) rfl (by kernel_rfl) (by kernel_rfl) (by kernel_rfl) (fun _ _ _ h => False.elim h) (Or.inl ⟨by rfl, ?_⟩) (by assumption) ?_
                      rotate_left
                      · intro w hSw
                        (try dsimp only at hSw)
                        go_simp
                        all_goals with_reducible rfl
                      (try simp only [Act.put, List.setIfInBounds_toArray, List.set_cons_zero, List.set_cons_succ])
                      refine wpAnyH_take (i := 21) (oi := ⟨some 111, _, _, _, _, _⟩) (v := .agg L.toArray) rfl (by kernel_rfl) (by kernel_rfl) (by kernel_rfl) (fun _ _ _ h => False.elim h) ?_ (by assumption) ?_
                      · refine yieldsIf_load_mid ?_ 23 _ rfl b (off + k * 19 + 1) rfl L _ ?_ HUT.out rfl HSZT.out
                        · rfl
                        · (intro w hSw; (try dsimp only at hSw); go_split_ands; assumption)
                      (try simp only [Act.put, List.setIfInBounds_toArray, List.set_cons_zero, List.set_cons_succ])
                      refine wpAnyH_ready (rs := [15]) (by kernel_rfl) (by simp) ?_
                      refine AllReadyH.cons (o := ⟨some 105, _, _, _, _, _⟩) rfl (fun K hK => ?_) AllReadyH.nil
                      go_simp
                      (refine (HROOM.out _ HPK2.out).mono ?_; rintro e wq3 ⟨rfl, hB3⟩; have HPK3 := Lib.hid (HPK2.out.next hB3); have hrow3 := HROWQ.out _ HPK3.out.below; clear hB3)
                      (try go_wp2_with fail)
                      refine hK.out _ _ ?_ (fun hHeld => ?_)
                      · ((try dsimp only); (first | assumption | (go_keep; done)))
                      clear hK K
                      (try simp only [Act.put, List.setIfInBounds_toArray, List.set_cons_zero, List.set_cons_succ])
                      refine wpAnyH_ready (rs := [22]) (by kernel_rfl) (by simp) ?_
                      refine AllReadyH.cons (o := ⟨some 112, _, _, _, _, _⟩) rfl (fun K hK => ?_) AllReadyH.nil
                      go_simp
                      (refine (HRROOM.out _ HPK3.out).mono ?_; rintro e wq4 ⟨rfl, hB4⟩; have HPK4 := Lib.hid (HPK3.out.next hB4); have hrow4 := HROWQ.out _ HPK4.out.below; clear hB4)
                      (try go_wp2_with fail)
                      refine hK.out _ _ ?_ (fun hHeld => ?_)
                      · ((try dsimp only); (first | assumption | (go_keep; done)))
                      clear hK K
                      (try simp only [Act.put, List.setIfInBounds_toArray, List.set_cons_zero, List.set_cons_succ])
                      refine wpAnyH_take (i := 23) (oi := ⟨some 113, _, _, _, _, _⟩) (v := ?_) rfl (by kernel_rfl) (by kernel_rfl) (by kernel_rfl) (fun _ _ _ h => False.elim h) (Or.inl ⟨by rfl, ?_⟩) (by assumption) ?_
                      rotate_left
                      · intro w hSw
                        (try dsimp only at hSw)
                        go_simp
                        all_goals with_reducible rfl
                      (try simp only [Act.put, List.setIfInBounds_toArray, List.set_cons_zero, List.set_cons_succ])
                      refine wpAnyH_take (i := 24) (oi := ⟨some 114, _, _, _, _, _⟩) (v := ?_) rfl (by kernel_rfl) (by kernel_rfl) (by kernel_rfl) (fun _ _ _ h => False.elim h) (Or.inl ⟨by rfl, ?_⟩) (by assumption) ?_
                      rotate_left
                      · intro w hSw
                        (try dsimp only at hSw)
                        go_simp
                        all_goals with_reducible rfl
                      (try simp only [Act.put, List.setIfInBounds_toArray, List.set_cons_zero, List.set_cons_succ])
                      refine wpAnyH_done (by kernel_rfl) ?_ _
                      refine NoPanic.normal ?_
                      go_wp2_with fail
                      go_roundg (i + 1 - (k + 1))
                      case measure => omega
                      case rel => exact ⟨k + 1, by omega, rfl, by go_num, HPK4.out⟩
                    · obtain rfl : k = i + 1 := by omega
                      have hle : ¬ ((i + 1 : Nat) : Int) ≤ (i : Int) := by omega
                      have HPK := Lib.hid hPk
                      have HLEN : Hid ((taken a2).length = l2.length) := Lib.hid HAT.out.length.symm
                      clear hPk
                      go_wp2_with fail
                      refine (len_tab T a2 _ HPK.out.tab HAT.out.ok).mono ?_; rintro e wq5 ⟨rfl, hB5⟩
                      have HPK5 := Lib.hid (HPK.out.next hB5)
                      rw [HLEN.out]
                      clear hB5
                      go_wp2_with fail
                      refine (rlen_any w.heap.size M l2 _ HPK5.out.ref).mono ?_; rintro e wq6 ⟨rfl, rfl⟩
                      go_wp2_with fail
                      go_roundg (n - (i + 1))
                      case measure => omega
                      case rel => exact ⟨i + 1, by omega, rfl, by go_num, a2, l2, HPK5.out, HAT.out⟩
            · have b3 : ¬ (r : Int) = 3 := by omega
              have b4 : ¬ (r : Int) = 4 := by omega
              have b5 : ¬ (r : Int) = 5 := by omega
              have c3 : ((r : Int) == 3) = false := by simpa using b3
              have c4 : ((r : Int) == 4) = false := by simpa using b4
              have c5 : ((r : Int) == 5) = false := by simpa using b5
              have hszX : (Try.prog.info? 23).map (·.size) = some (x.tag.map (Value.int .u8)).length := by rw [List.length_map, HOX.out.tag]; kernel_rfl
              have hput := fun W (hP : Pair w W T M a l) => put_tab T a x.tag x.spot x.ticks W hP.tab HA.out.ok HOX.out.tag
              have hrput := fun W a' (hP : Pair w W T M a' l) => rput_any w.heap.size M l x.tag x.spot x.ticks W hP.ref hP.base HOX.out.tag
              obtain ⟨LX, hLX⟩ : ∃ LX, x.tag.map (Value.int .u8) = LX := ⟨_, rfl⟩
              rw [hLX] at p1 hszX hput hrput
              have HSZX := Lib.hid hszX
              have HPUT := Lib.hid hput
              have HRPUT := Lib.hid hrput
              have HLX := Lib.hid hLX
              have HPD := Lib.hid HP5.out.drew
              have HXD := Lib.hid HXA.out.drew
              clear hszX hput hrput hLX
              go_wp2_with fail
              refine wp_region_noPanic ?_
              refine wp_region_held_drew (S := (fun w' => w'.rangeAt wr.heap.size 1 LX ∧ w'.cell? ⟨wr.heap.size, 17, none⟩ = some (.int .u32 x.spot) ∧ w'.cell? ⟨wr.heap.size, 18, none⟩ = some (.int .u32 x.ticks))) (by kernel_rfl) ?_ (fun hHeld => ?_)
              · ((try dsimp only); refine ⟨?_, ?_, ?_⟩ <;> (first | assumption | (go_keep; done)))
              refine wpAnyH_take (i := 0) (oi := ⟨some 31, _, _, _, _, _⟩) (v := ?_) rfl (by kernel_rfl) (by kernel_rfl) (by kernel_rfl) (fun _ _ _ h => False.elim h) (Or.inl ⟨by rfl, ?_⟩) (by assumption) ?_
              rotate_left
              · intro w hSw
                (try dsimp only at hSw)
                go_simp
                all_goals with_reducible rfl
              (try simp only [Act.put, List.setIfInBounds_toArray, List.set_cons_zero, List.set_cons_succ])
              refine wpAnyH_take (i := 1) (oi := ⟨some 32, _, _, _, _, _⟩) (v := ?_) rfl (by kernel_rfl) (by kernel_rfl) (by kernel_rfl) (fun _ _ _ h => False.elim h) (Or.inl ⟨by rfl, ?_⟩) (by assumption) ?_
              rotate_left
              · intro w hSw
                (try dsimp only at hSw)
                go_simp
                all_goals with_reducible rfl
              (try simp only [Act.put, List.setIfInBounds_toArray, List.set_cons_zero, List.set_cons_succ])
              refine wpAnyH_take (i := 2) (oi := ⟨some 33, _, _, _, _, _⟩) (v := .agg LX.toArray) rfl (by kernel_rfl) (by kernel_rfl) (by kernel_rfl) (fun _ _ _ h => False.elim h) ?_ (by assumption) ?_
              · refine yieldsIf_load_mid ?_ 23 _ rfl wr.heap.size 1 rfl LX _ ?_ HUT.out rfl HSZX.out
                · rfl
                · (intro w hSw; (try dsimp only at hSw); go_split_ands; assumption)
              (try simp only [Act.put, List.setIfInBounds_toArray, List.set_cons_zero, List.set_cons_succ])
              refine wpAnyH_take (i := 3) (oi := ⟨some 34, _, _, _, _, _⟩) (v := ?_) rfl (by kernel_rfl) (by kernel_rfl) (by kernel_rfl) (fun _ _ _ h => False.elim h) (Or.inl ⟨by rfl, ?_⟩) (by assumption) ?_
              rotate_left
              · intro w hSw
                (try dsimp only at hSw)
                go_simp
                all_goals with_reducible rfl
              (try simp only [Act.put, List.setIfInBounds_toArray, List.set_cons_zero, List.set_cons_succ])
              refine wpAnyH_take (i := 4) (oi := ⟨some 35, _, _, _, _, _⟩) (v := ?_) rfl (by kernel_rfl) (by kernel_rfl) (by kernel_rfl) (fun _ _ _ h => False.elim h) (Or.inl ⟨by rfl, ?_⟩) (by assumption) ?_
              rotate_left
              · intro w hSw
                (try dsimp only at hSw)
                go_simp
                all_goals with_reducible rfl
              (try simp only [Act.put, List.setIfInBounds_toArray, List.set_cons_zero, List.set_cons_succ])
              refine wpAnyH_take (i := 5) (oi := ⟨some 36, _, _, _, _, _⟩) (v := ?_) rfl (by kernel_rfl) (by kernel_rfl) (by kernel_rfl) (fun _ _ _ h => False.elim h) (Or.inl ⟨by rfl, ?_⟩) (by assumption) ?_
              rotate_left
              · intro w hSw
                (try dsimp only at hSw)
                go_simp
                all_goals with_reducible rfl
              (try simp only [Act.put, List.setIfInBounds_toArray, List.set_cons_zero, List.set_cons_succ])
              refine wpAnyH_take (i := 6) (oi := ⟨some 37, _, _, _, _, _⟩) (v := ?_) rfl (by kernel_rfl) (by kernel_rfl) (by kernel_rfl) (fun _ _ _ h => False.elim h) (Or.inl ⟨by rfl, ?_⟩) (by assumption) ?_
              rotate_left
              · intro w hSw
                (try dsimp only at hSw)
                go_simp
                all_goals with_reducible rfl
              (try simp only [Act.put, List.setIfInBounds_toArray, List.set_cons_zero, List.set_cons_succ])
              refine wpAnyH_take (i := 8) (oi := ⟨some 39, _, _, _, _, _⟩) (v := ?_) rfl (by kernel_rfl) (by kernel_rfl) (by kernel_rfl) (fun _ _ _ h => False.elim h) (Or.inl ⟨by rfl, ?_⟩) (by assumption) ?_
              rotate_left
              · intro w hSw
                (try dsimp only at hSw)
                go_simp
                all_goals with_reducible rfl
              (try simp only [Act.put, List.setIfInBounds_toArray, List.set_cons_zero, List.set_cons_succ])
              refine wpAnyH_take (i := 9) (oi := ⟨some 40, _, _, _, _, _⟩) (v := ?_) rfl (by kernel_rfl) (by kernel_rfl) (by kernel_rfl) (fun _ _ _ h => False.elim h) (Or.inl ⟨by rfl, ?_⟩) (by assumption) ?_
              rotate_left
              · intro w hSw
                (try dsimp only at hSw)
                go_simp
                all_goals with_reducible rfl
              (try simp only [Act.put, List.setIfInBounds_toArray, List.set_cons_zero, List.set_cons_succ])
              refine wpAnyH_take (i := 10) (oi := ⟨some 41, _, _, _, _, _⟩) (v := .agg LX.toArray) rfl (by kernel_rfl) (by kernel_rfl) (by kernel_rfl) (fun _ _ _ h => False.elim h) ?_ (by assumption) ?_
              · refine yieldsIf_load_mid ?_ 23 _ rfl wr.heap.size 1 rfl LX _ ?_ HUT.out rfl HSZX.out
                · rfl
                · (intro w hSw; (try dsimp only at hSw); go_split_ands; assumption)
              (try simp only [Act.put, List.setIfInBounds_toArray, List.set_cons_zero, List.set_cons_succ])
              refine wpAnyH_take (i := 11) (oi := ⟨some 42, _, _, _, _, _⟩) (v := ?_) rfl (by kernel_rfl) (by kernel_rfl) (by kernel_rfl) (fun _ _ _ h => False.elim h) (Or.inl ⟨by rfl, ?_⟩) (by assumption) ?_
              rotate_left
              · intro w hSw
                (try dsimp only at hSw)
                go_simp
                all_goals with_reducible rfl
              (try simp only [Act.put, List.setIfInBounds_toArray, List.set_cons_zero, List.set_cons_succ])
              refine wpAnyH_take (i := 12) (oi := ⟨some 43, _, _, _, _, _⟩) (v := ?_) rfl (by kernel_rfl) (by kernel_rfl) (by kernel_rfl) (fun _ _ _ h => False.elim h) (Or.inl ⟨by rfl, ?_⟩) (by assumption) ?_
              rotate_left
              · intro w hSw
                (try dsimp only at hSw)
                go_simp
                all_goals with_reducible rfl
              (try simp only [Act.put, List.setIfInBounds_toArray, List.set_cons_zero, List.set_cons_succ])
              refine wpAnyH_take (i := 13) (oi := ⟨some 44, _, _, _, _, _⟩) (v := ?_) rfl (by kernel_rfl) (by kernel_rfl) (by kernel_rfl) (fun _ _ _ h => False.elim h) (Or.inl ⟨by rfl, ?_⟩) (by assumption) ?_
              rotate_left
              · intro w hSw
                (try dsimp only at hSw)
                go_simp
                all_goals with_reducible rfl
              (try simp only [Act.put, List.setIfInBounds_toArray, List.set_cons_zero, List.set_cons_succ])
              refine wpAnyH_take (i := 14) (oi := ⟨some 45, _, _, _, _, _⟩) (v := ?_) rfl (by kernel_rfl) (by kernel_rfl) (by kernel_rfl) (fun _ _ _ h => False.elim h) (Or.inl ⟨by rfl, ?_⟩) (by assumption) ?_
              rotate_left
              · intro w hSw
                (try dsimp only at hSw)
                go_simp
                all_goals with_reducible rfl
              (try simp only [Act.put, List.setIfInBounds_toArray, List.set_cons_zero, List.set_cons_succ])
              refine wpAnyH_ready (rs := [7]) (by kernel_rfl) (by simp) ?_
              refine AllReadyH.cons (o := ⟨some 38, _, _, _, _, _⟩) rfl (fun K hK => ?_) AllReadyH.nil
              go_simp
              (refine (HPUT.out _ HPD.out).mono ?_; rintro e w7 ⟨E7, a7, rfl, hp7, ht7, hk7⟩; have HP7 := Lib.hid (HPD.out.tabStep ht7 hk7); have HX7 := Lib.hid (HXD.out.tabStep hk7); have HPI := Lib.hid hp7; obtain ⟨_, c1, c2, c3⟩ := HX7.out.parts HOX.out.tag; rw [HLX.out] at c1; clear ht7 hk7 hp7)
              (try go_wp2_with fail)
              refine hK.out _ _ ?_ (fun hHeld => ?_)
              · ((try dsimp only); refine ⟨?_, ?_, ?_⟩ <;> (first | assumption | (go_keep; done)))
              clear hK K
              (try simp only [Act.put, List.setIfInBounds_toArray, List.set_cons_zero, List.set_cons_succ])
              refine wpAnyH_ready (rs := [15]) (by kernel_rfl) (by simp) ?_
              refine AllReadyH.cons (o := ⟨some 46, _, _, _, _, _⟩) rfl (fun K hK => ?_) AllReadyH.nil
              go_simp
              (refine (HRPUT.out _ _ HP7.out).mono ?_; rintro e w8 ⟨E8, l8, rfl, hp8, hr8, hk8⟩; have HP8 := Lib.hid (HP7.out.refStep hr8 hk8); obtain ⟨rfl, hA8⟩ := put_same HA.out HPI.out hp8; have HA8 := Lib.hid hA8; obtain ⟨_, d1, d2, d3⟩ := (HX7.out.refStep hk8).parts HOX.out.tag; rw [HLX.out] at d1; clear hr8 hk8 hp8 hA8)
              (try go_wp2_with fail)
              refine hK.out _ _ ?_ (fun hHeld => ?_)
              · ((try dsimp only); refine ⟨?_, ?_, ?_⟩ <;> (first | assumption | (go_keep; done)))
              clear hK K
              (try simp only [Act.put, List.setIfInBounds_toArray, List.set_cons_zero, List.set_cons_succ])
              refine wpAnyH_take (i := 16) (oi := ⟨some 47, _, _, _, _, _⟩) (v := ?_) rfl (by kernel_rfl) (by kernel_rfl) (by kernel_rfl) (fun _ _ _ h => False.elim h) (Or.inl ⟨by rfl, ?_⟩) (by assumption) ?_
              rotate_left
              · intro w hSw
                (try dsimp only at hSw)
                go_simp
                all_goals with_reducible rfl
              (try simp only [Act.put, List.setIfInBounds_toArray, List.set_cons_zero, List.set_cons_succ])
              refine wpAnyH_done (by kernel_rfl) ?_ _
              refine NoPanic.normal ?_
              obtain ⟨a2, l2, HPT, HAT⟩ : ∃ a2 l2, Hid (Pair w w8 T M a2 l2) ∧ Hid (Alike a2 l2) := ⟨_, _, HP8, HA8⟩
              go_wp2_with fail
              go_loopg [8] (i + 1) (fun g s8 wq => ∃ k : Nat, k ≤ i + 1 ∧ g = i + 1 - k ∧ s8 = .int .i64 k ∧ Pair w wq T M a2 l2)
              case atStart => exact ⟨0, Nat.zero_le _, rfl, rfl, HPT.out⟩
              case round =>
                obtain ⟨k, hk, rfl, rfl, hPk⟩ := hrel
                by_cases hkl : k < i + 1
                · obtain ⟨y, hy⟩ : ∃ y, xs[k]? = some y := ⟨_, List.getElem?_eq_getElem (by have := H.out.len; omega)⟩
                  have hoy := H.out.ok y (List.mem_of_getElem? hy)
                  have hrowq : ∀ W, Below w.heap.size w W → W.rangeAt b (off + k * 19 + 1) (y.tag.map (Value.int .u8)) := fun W hW => by
                    obtain ⟨b2, off2, eb, _, hr2⟩ := H.out.at_ hW hy
                    injection eb with eb
                    injection eb with e1 e2
                    subst e1 e2
                    exact (ac_at hr2 hoy.tag).2.1
                  have hszT : (Try.prog.info? 23).map (·.size) = some (y.tag.map (Value.int .u8)).length := by rw [List.length_map, hoy.tag]; kernel_rfl
                  have hget := fun W (hP : Pair w W T M a2 l2) => get_tab T a2 y.tag W hP.tab HAT.out.ok hoy.tag
                  have hrget := fun W (hP : Pair w W T M a2 l2) => rget_any w.heap.size M l2 y.tag W hP.ref hoy.tag
                  have hroom := fun W (hP : Pair w W T M a2 l2) => room_any T a2 y.tag W hP.tab HAT.out.ok hoy.tag
                  have hrroom := fun W (hP : Pair w W T M a2 l2) => rroom_any w.heap.size M l2 y.tag W hP.ref hoy.tag
                  have hrs := room_same HAT.out y.tag
                  rw [hrs] at hroom
                  generalize rroomN l2 y.tag = RN at *
                  obtain ⟨L, hL⟩ : ∃ L, y.tag.map (Value.int .u8) = L := ⟨_, rfl⟩
                  rw [hL] at hrowq hszT hget hrget hroom hrroom
                  have HROWQ := Lib.hid hrowq
                  have HSZT := Lib.hid hszT
                  have HGET := Lib.hid hget
                  have HRGET := Lib.hid hrget
                  have HROOM := Lib.hid hroom
                  have HRROOM := Lib.hid hrroom
                  have HPK := Lib.hid hPk
                  have k0 : (0 : Int) ≤ (k : Int) := by omega
                  have k1 : (k : Int) < (n : Int) := by omega
                  have k2 : (k : Int) ≤ (i : Int) := by omega
                  have kadd : IntKind.i64.wrap ((k : Int) + 1) = (k : Int) + 1 := IntWalk.i64_in _ (by omega)
                  clear hrowq hszT hget hrget hroom hrroom hrs hL hy hoy hPk
                  go_wp2_with (refine wpList_load_mid rfl 23 _ rfl b (off + k * 19 + 1) rfl L _ (HROWQ.out _ HPK.out.below) HUT.out rfl HSZT.out ?_)
                  refine (HGET.out _ HPK.out).mono ?_; rintro e wq1 ⟨s1, E1, rfl, hg1, hB1⟩
                  have HPK1 := Lib.hid (HPK.out.next hB1)
                  clear hB1
                  go_wp2_with (refine wpList_load_mid rfl 23 _ rfl b (off + k * 19 + 1) rfl L _ (HROWQ.out _ HPK1.out.below) HUT.out rfl HSZT.out ?_)
                  refine (HRGET.out _ HPK1.out).mono ?_; rintro e wq2 ⟨s2, E2, rfl, hg2, hB2⟩
                  have HPK2 := Lib.hid (HPK1.out.next hB2).drew
                  obtain ⟨rfl, rfl⟩ := get_same HAT.out hg1 hg2
                  have hrow2 := HROWQ.out _ HPK2.out.below
                  clear hB2 hg1 hg2
                  go_wp2_with fail
                  refine wp_region_noPanic ?_
                  refine wp_region_held_drew (S := (fun w' => w'.rangeAt b (off + k * 19 + 1) L)) (by kernel_rfl) ?_ (fun hHeld => ?_)
                  · ((try dsimp only); (first | assumption | (go_keep; done)))
                  refine wpAnyH_take (i := 0) (oi := ⟨some 90, _, _, _, _, _⟩) (v := ?_) rfl (by kernel_rfl) (by kernel_rfl) (by kernel_rfl) (fun _ _ _ h => False.elim h) (Or.inl ⟨by rfl, ?_⟩) (by assumption) ?_
                  rotate_left
                  · intro w hSw
                    (try dsimp only at hSw)
                    go_simp
                    all_goals with_reducible rfl
                  (try simp only [Act.put, List.setIfInBounds_toArray, List.set_cons_zero, List.set_cons_succ])
                  refine wpAnyH_take (i := 1) (oi := ⟨some 91, _, _, _, _, _⟩) (v := ?_) rfl (by kernel_rfl) (by kernel_rfl) (by kernel_rfl) (fun _ _ _ h => False.elim h) (Or.inl ⟨by rfl, ?_⟩) (by assumption) ?_
                  rotate_left
                  · intro w hSw
                    (try dsimp only at hSw)
                    go_simp
                    all_goals with_reducible rfl
                  (try simp only [Act.put, List.setIfInBounds_toArray, List.set_cons_zero, List.set_cons_succ])
                  refine wpAnyH_take (i := 2) (oi := ⟨some 92, _, _, _, _, _⟩) (v := ?_) rfl (by kernel_rfl) (by kernel_rfl) (by kernel_rfl) (fun _ _ _ h => False.elim h) (Or.inl ⟨by rfl, ?_⟩) (by assumption) ?_
                  rotate_left
                  · intro w hSw
                    (try dsimp only at hSw)
                    go_simp
                    all_goals with_reducible rfl
                  (try simp only [Act.put, List.setIfInBounds_toArray, List.set_cons_zero, List.set_cons_succ])
                  refine wpAnyH_take (i := 3) (oi := ⟨some 93, _, _, _, _, _⟩) (v := ?_) rfl (by kernel_rfl) (by kernel_rfl) (by kernel_rfl) (fun _ _ _ h => False.elim h) (Or.inl ⟨by rfl, ?_⟩) (by assumption) ?_
                  rotate_left
                  · intro w hSw
                    (try dsimp only at hSw)
                    go_simp
                    all_goals with_reducible rfl
                  (try simp only [Act.put, List.setIfInBounds_toArray, List.set_cons_zero, List.set_cons_succ])
                  refine wpAnyH_take (i := 4) (oi := ⟨some 94, _, _, _, _, _⟩) (v := ?_) rfl (by kernel_rfl) (by kernel_rfl) (by kernel_rfl) (fun _ _ _ h => False.elim h) (Or.inl ⟨by rfl, ?_⟩) (by assumption) ?_
                  rotate_left
                  · intro w hSw
                    (try dsimp only at hSw)
                    go_simp
                    all_goals with_reducible rfl
                  (try simp only [Act.put, List.setIfInBounds_toArray, List.set_cons_zero, List.set_cons_succ])
                  refine wpAnyH_take (i := 5) (oi := ⟨some 95, _, _, _, _, _⟩) (v := ?_) rfl (by kernel_rfl) (by kernel_rfl) (by kernel_rfl) (fun _ _ _ h => False.elim h) (Or.inl ⟨by rfl, ?_⟩) (by assumption) ?_
                  rotate_left
                  · intro w hSw
                    (try dsimp only at hSw)
                    go_simp
                    all_goals with_reducible rfl
                  (try simp only [Act.put, List.setIfInBounds_toArray, List.set_cons_zero, List.set_cons_succ])
                  refine wpAnyH_take (i := 6) (oi := ⟨some 96, _, _, _, _, _⟩) (v := ?_) rfl (by kernel_rfl) (by kernel_rfl) (by kernel_rfl) (fun _ _ _ h => False.elim h) (Or.inl ⟨by rfl, ?_⟩) (by assumption) ?_
                  rotate_left
                  · intro w hSw
                    (try dsimp only at hSw)
                    go_simp
                    all_goals with_reducible rfl
                  (try simp only [Act.put, List.setIfInBounds_toArray, List.set_cons_zero, List.set_cons_succ])
                  refine wpAnyH_take (i := 7) (oi := ⟨some 97, _, _, _, _, _⟩) (v := ?_) rfl (by kernel_rfl) (by kernel_rfl) (by kernel_rfl) (fun _ _ _ h => False.elim h) (Or.inl ⟨by rfl, ?_⟩) (by assumption) ?_
                  rotate_left
                  · intro w hSw
                    (try dsimp only at hSw)
                    go_simp
                    all_goals with_reducible rfl
                  (try simp only [Act.put, List.setIfInBounds_toArray, List.set_cons_zero, List.set_cons_succ])
                  refine wpAnyH_take (i := 8) (oi := ⟨some 98, _, _, _, _, _⟩) (v := ?_) rfl (by kernel_rfl) (by kernel_rfl) (by kernel_rfl) (fun _ _ _ h => False.elim h) (Or.inl ⟨by rfl, ?_⟩) (by assumption) ?_
                  rotate_left
                  · intro w hSw
                    (try dsimp only at hSw)
                    go_simp
                    all_goals with_reducible rfl
                  (try simp only [Act.put, List.setIfInBounds_toArray, List.set_cons_zero, List.set_cons_succ])
                  refine wpAnyH_take (i := 9) (oi := ⟨some 99, _, _, _, _, _⟩) (v := ?_) rfl (by kernel_rfl) (by kernel_rfl) (by kernel_rfl) (fun _ _ _ h => False.elim h) (Or.inl ⟨by rfl, ?_⟩) (by assumption) ?_
                  rotate_left
                  · intro w hSw
                    (try dsimp only at hSw)
                    go_simp
                    all_goals with_reducible rfl
                  (try simp only [Act.put, List.setIfInBounds_toArray, List.set_cons_zero, List.set_cons_succ])
                  refine wpAnyH_take (i := 10) (oi := ⟨some 100, _, _, _, _, _⟩) (v := ?_) rfl (by kernel_rfl) (by kernel_rfl) (by kernel_rfl) (fun _ _ _ h => False.elim h) (Or.inl ⟨by rfl, ?_⟩) (by assumption) ?_
                  rotate_left
                  · intro w hSw
                    (try dsimp only at hSw)
                    go_simp
                    all_goals with_reducible rfl
                  (try simp only [Act.put, List.setIfInBounds_toArray, List.set_cons_zero, List.set_cons_succ])
                  refine wpAnyH_take (i := 11) (oi := ⟨some 101, _, _, _, _, _⟩) (v := ?_) rfl (by kernel_rfl) (by kernel_rfl) (by kernel_rfl) (fun _ _ _ h => False.elim h) (Or.inl ⟨by rfl, ?_⟩) (by assumption) ?_
                  rotate_left
                  · intro w hSw
                    (try dsimp only at hSw)
                    go_simp
                    all_goals with_reducible rfl
                  (try simp only [Act.put, List.setIfInBounds_toArray, List.set_cons_zero, List.set_cons_succ])
                  refine wpAnyH_take (i := 12) (oi := ⟨some 102, _, _, _, _, _⟩) (v := ?_) rfl (by kernel_rfl) (by kernel_rfl) (by kernel_rfl) (fun _ _ _ h => False.elim h) (Or.inl ⟨by rfl, ?_⟩) (by assumption) ?_
                  rotate_left
                  · intro w hSw
                    (try dsimp only at hSw)
                    go_simp
                    all_goals with_reducible rfl
                  (try simp only [Act.put, List.setIfInBounds_toArray, List.set_cons_zero, List.set_cons_succ])
                  refine wpAnyH_take (i := 13) (oi := ⟨some 103, _, _, _, _, _⟩) (v := ?_) rfl (by kernel_rfl) (by kernel_rfl) (by kernel_rfl) (fun _ _ _ h => False.elim h) (Or.inl ⟨by rfl, ?_⟩) (by assumption) ?_
                  rotate_left
                  · intro w hSw
                    (try dsimp only at hSw)
                    go_simp
                    all_goals with_reducible rfl
                  (try simp only [Act.put, List.setIfInBounds_toArray, List.set_cons_zero, List.set_cons_succ])
                  refine wpAnyH_take (i := 14) (oi := ⟨some 104, _, _, _, _, _⟩) (v := .agg L.toArray) rfl (by kernel_rfl) (by kernel_rfl) (by kernel_rfl) (fun _ _ _ h => False.elim h) ?_ (by assumption) ?_
                  · refine yieldsIf_load_mid ?_ 23 _ rfl b (off + k * 19 + 1) rfl L _ ?_ HUT.out rfl HSZT.out
                    · rfl
                    · (intro w hSw; (try dsimp only at hSw); go_split_ands; assumption)
                  (try simp only [Act.put, List.setIfInBounds_toArray, List.set_cons_zero, List.set_cons_succ])
                  refine wpAnyH_take (i := 16) (oi := ⟨some 106, _, _, _, _, _⟩) (v := ?_) rfl (by kernel_rfl) (by kernel_rfl) (by kernel_rfl) (fun _ _ _ h => False.elim h) (Or.inl ⟨by rfl, ?_⟩) (by assumption) ?_
                  rotate_left
                  · intro w hSw
                    (try dsimp only at hSw)
                    go_simp
                    all_goals with_reducible rfl
                  (try simp only [Act.put, List.setIfInBounds_toArray, List.set_cons_zero, List.set_cons_succ])
                  refine wpAnyH_take (i := 17) (oi := ⟨some 107, _, _, _, _, _⟩) (v := ?_) rfl (by kernel_rfl) (by kernel_rfl) (by kernel_rfl) (fun _ _ _ h => False.elim h) (Or.inl ⟨by rfl, ?_⟩) (by assumption) ?_
                  rotate_left
                  · intro w hSw
                    (try dsimp only at hSw)
                    go_simp
                    all_goals with_reducible rfl
                  (try simp only [Act.put, List.setIfInBounds_toArray, List.set_cons_zero, List.set_cons_succ])
                  refine wpAnyH_take (i := 18) (oi := ⟨some 108, _, _, _, _, _⟩) (v := ?_) rfl (by kernel_rfl) (by kernel_rfl) (by kernel_rfl) (fun _ _ _ h => False.elim h) (Or.inl ⟨by rfl, ?_⟩) (by assumption) ?_
                  rotate_left
                  · intro w hSw
                    (try dsimp only at hSw)
                    go_simp
                    all_goals with_reducible rfl
                  (try simp only [Act.put, List.setIfInBounds_toArray, List.set_cons_zero, List.set_cons_succ])
                  refine wpAnyH_take (i := 19) (oi := ⟨some 109, _, _, _, _, _⟩) (v := ?_) rfl (by kernel_rfl) (by kernel_rfl) (by kernel_rfl) (fun _ _ _ h => False.elim h) (Or.inl ⟨by rfl, ?_⟩) (by assumption) ?_
                  rotate_left
                  · intro w hSw
                    (try dsimp only at hSw)
                    go_simp
                    all_goals with_reducible rfl
                  (try simp only [Act.put, List.setIfInBounds_toArray, List.set_cons_zero, List.set_cons_succ])
                  refine wpAnyH_take (i := 20) (oi := ⟨some 110, _, _, _, _, _⟩) (v := ?_) rfl (by kernel_rfl) (by kernel_rfl) (by kernel_rfl) (fun _ _ _ h => False.elim h) (Or.inl ⟨by rfl, ?_⟩) (by assumption) ?_
                  rotate_left
                  · intro w hSw
                    (try dsimp only at hSw)
                    go_simp
                    all_goals with_reducible rfl
                  (try simp only [Act.put, List.setIfInBounds_toArray, List.set_cons_zero, List.set_cons_succ])
                  refine wpAnyH_take (i := 21) (oi := ⟨some 111, _, _, _, _, _⟩) (v := .agg L.toArray) rfl (by kernel_rfl) (by kernel_rfl) (by kernel_rfl) (fun _ _ _ h => False.elim h) ?_ (by assumption) ?_
                  · refine yieldsIf_load_mid ?_ 23 _ rfl b (off + k * 19 + 1) rfl L _ ?_ HUT.out rfl HSZT.out
                    · rfl
                    · (intro w hSw; (try dsimp only at hSw); go_split_ands; assumption)
                  (try simp only [Act.put, List.setIfInBounds_toArray, List.set_cons_zero, List.set_cons_succ])
                  refine wpAnyH_ready (rs := [15]) (by kernel_rfl) (by simp) ?_
                  refine AllReadyH.cons (o := ⟨some 105, _, _, _, _, _⟩) rfl (fun K hK => ?_) AllReadyH.nil
                  go_simp
                  (refine (HROOM.out _ HPK2.out).mono ?_; rintro e wq3 ⟨rfl, hB3⟩; have HPK3 := Lib.hid (HPK2.out.next hB3); have hrow3 := HROWQ.out _ HPK3.out.below; clear hB3)
                  (try go_wp2_with fail)
                  refine hK.out _ _ ?_ (fun hHeld => ?_)
                  · ((try dsimp only); (first | assumption | (go_keep; done)))
                  clear hK K
                  (try simp only [Act.put, List.setIfInBounds_toArray, List.set_cons_zero, List.set_cons_succ])
                  refine wpAnyH_ready (rs := [22]) (by kernel_rfl) (by simp) ?_
                  refine AllReadyH.cons (o := ⟨some 112, _, _, _, _, _⟩) rfl (fun K hK => ?_) AllReadyH.nil
                  go_simp
                  (refine (HRROOM.out _ HPK3.out).mono ?_; rintro e wq4 ⟨rfl, hB4⟩; have HPK4 := Lib.hid (HPK3.out.next hB4); have hrow4 := HROWQ.out _ HPK4.out.below; clear hB4)
                  (try go_wp2_with fail)
                  refine hK.out _ _ ?_ (fun hHeld => ?_)
                  · ((try dsimp only); (first | assumption | (go_keep; done)))
                  clear hK K
                  (try simp only [Act.put, List.setIfInBounds_toArray, List.set_cons_zero, List.set_cons_succ])
                  refine wpAnyH_take (i := 23) (oi := ⟨some 113, _, _, _, _, _⟩) (v := ?_) rfl (by kernel_rfl) (by kernel_rfl) (by kernel_rfl) (fun _ _ _ h => False.elim h) (Or.inl ⟨by rfl, ?_⟩) (by assumption) ?_
                  rotate_left
                  · intro w hSw
                    (try dsimp only at hSw)
                    go_simp
                    all_goals with_reducible rfl
                  (try simp only [Act.put, List.setIfInBounds_toArray, List.set_cons_zero, List.set_cons_succ])
                  refine wpAnyH_take (i := 24) (oi := ⟨some 114, _, _, _, _, _⟩) (v := ?_) rfl (by kernel_rfl) (by kernel_rfl) (by kernel_rfl) (fun _ _ _ h => False.elim h) (Or.inl ⟨by rfl, ?_⟩) (by assumption) ?_
                  rotate_left
                  · intro w hSw
                    (try dsimp only at hSw)
                    go_simp
                    all_goals with_reducible rfl
                  (try simp only [Act.put, List.setIfInBounds_toArray, List.set_cons_zero, List.set_cons_succ])
                  refine wpAnyH_done (by kernel_rfl) ?_ _
                  refine NoPanic.normal ?_
                  go_wp2_with fail
                  go_roundg (i + 1 - (k + 1))
                  case measure => omega
                  case rel => exact ⟨k + 1, by omega, rfl, by go_num, HPK4.out⟩
                · obtain rfl : k = i + 1 := by omega
                  have hle : ¬ ((i + 1 : Nat) : Int) ≤ (i : Int) := by omega
                  have HPK := Lib.hid hPk
                  have HLEN : Hid ((taken a2).length = l2.length) := Lib.hid HAT.out.length.symm
                  clear hPk
                  go_wp2_with fail
                  refine (len_tab T a2 _ HPK.out.tab HAT.out.ok).mono ?_; rintro e wq5 ⟨rfl, hB5⟩
                  have HPK5 := Lib.hid (HPK.out.next hB5)
                  rw [HLEN.out]
                  clear hB5
                  go_wp2_with fail
                  refine (rlen_any w.heap.size M l2 _ HPK5.out.ref).mono ?_; rintro e wq6 ⟨rfl, rfl⟩
                  go_wp2_with fail
                  go_roundg (n - (i + 1))
                  case measure => omega
                  case rel => exact ⟨i + 1, by omega, rfl, by go_num, a2, l2, HPK5.out, HAT.out⟩
      · obtain rfl : i = n := by omega
        have HPZ := Lib.hid hP.below
        clear hP hA
        go_wp2_with fail
        go_ret
        exact ⟨rfl, HPZ.out⟩
end Go.Proofs.Ytlmlklaleooliaa
