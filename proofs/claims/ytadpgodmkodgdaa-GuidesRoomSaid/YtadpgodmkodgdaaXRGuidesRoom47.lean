/- The law GuidesRoom: as many as may be, and no more. (Printed by wip/mkroom26.py.); The law GuidesRoom: its parameter opened. -/
import Derived.Test.YtadpgodmkodgdaaXRGuidesRoom45
import Derived.Test.YtadpgodmkodgdaaXRGuidesRoom46
namespace Go.Proofs.Ytadpgodmkodgdaa
open Go.RowKit
set_option linter.unusedSimpArgs false
set_option linter.unusedVariables false

theorem size_tagR : (Try.prog.info? 23).map (·.size) = some 16 := by kernel_rfl
theorem info_tagR : (Try.prog.info? 23).map (fun i => (i.zero, i.size, i.bytes)) = some (some (.agg ((List.replicate 16 (0 : Int)).map (Value.int .u8)).toArray), 16, 16) := by kernel_rfl
theorem size_actR : (Try.prog.info? 27).map (·.size) = some 19 := by kernel_rfl
def zActR : List Value := acC ⟨0, List.replicate 16 0, 0, 0⟩
theorem alloc_actR (W : World) (o : Oper) (ho : o.op = .alloc 27) (ev : Operand → Value) : (execOp ev o).run Try.prog W = .ok (.value (.pointer (some ⟨W.heap.size, 0, none⟩))) (W.alloc (.cells zActR.toArray 27)) := by
  obtain ⟨d, op, t, p, af, g⟩ := o
  simp only at ho
  subst ho
  kernel_rfl
theorem acC_oneR (x : Ac) : ∀ v ∈ acC x, v.oneCell' = true := by
  intro v hv
  simp only [acC, List.mem_cons, List.mem_append, List.mem_map, List.not_mem_nil, or_false] at hv
  rcases hv with rfl | ⟨_, _, rfl⟩ | rfl | rfl <;> rfl
theorem run_slice_tag (tag : List Int) (h : tag.length = 16) (W : World) :
    (Instr.buildSlice 56 1 #[(0, .agg (tag.map (Value.int .u8)).toArray)]).run Try.prog W = .ok (.slice (some ⟨W.heap.size, 0, none⟩) 1 1) (W.alloc (.cells (tag.map (Value.int .u8)).toArray 23)) := by
  obtain ⟨x0, x1, x2, x3, x4, x5, x6, x7, x8, x9, x10, x11, x12, x13, x14, x15, rfl⟩ := list16 h
  kernel_rfl
theorem exec_sliceK {P : Program} {o : Oper} {ev : Operand → Value} {w w' : World} {v : Value} {ty : TypeId} {n : Nat} {parts : Array (Nat × Operand)} (ho : o.op = .buildSlice ty n parts) (h : (Instr.buildSlice ty n (parts.map fun x => (x.1, ev x.2))).run P w = .ok v w') : (execOp ev o).run P w = .ok (.value v) w' := by
  unfold execOp
  simp only [ho, Sem.run_bind, Sem.run_pure, h, Result.andThen_ok]
theorem own_belowR {base : Nat} {w w' : World} {e : TypeId} {size n : Nat} {v : Value} {xs : List Value} (h : w.ownsRow base e size v n xs) (hB : Below w.heap.size w w') : w'.ownsRow base e size v n xs :=
  (Keeps.of_below (M := fun _ => False) hB).own h (fun _ _ hf => hf)
/-- Tags, one behind the other. -/
def flatT (l : List (List Int)) : List Value := (l.map fun t => t.map (Value.int .u8)).flatten
theorem flatT_snoc (l : List (List Int)) (t : List Int) : flatT (l ++ [t]) = flatT l ++ t.map (Value.int .u8) := by simp [flatT]
theorem flatT_at : ∀ (l : List (List Int)), (∀ t ∈ l, t.length = 16) → ∀ (j i : Nat) (t : List Int), l[j]? = some t → i < 16 → (flatT l)[j * 16 + i]? = (t.map (Value.int .u8))[i]?
  | [], _, j, i, t, hj, _ => by simp at hj
  | u :: l, h, j, i, t, hj, hi => by
    have hu : (u.map (Value.int .u8)).length = 16 := by rw [List.length_map]; exact h u (by simp)
    have e : flatT (u :: l) = u.map (Value.int .u8) ++ flatT l := by simp [flatT]
    rw [e]
    cases j with
    | zero =>
      simp only [List.getElem?_cons_zero, Option.some.injEq] at hj
      subst hj
      rw [List.getElem?_append_left (by omega), Nat.zero_mul, Nat.zero_add]
    | succ j =>
      rw [List.getElem?_append_right (by rw [hu]; omega), hu, show (j + 1) * 16 + i - 16 = j * 16 + i by omega]
      exact flatT_at l (fun t ht => h t (by simp [ht])) j i t (by simpa using hj) hi
theorem own_tagAt {base : Nat} {w : World} {v : Value} {n : Nat} {l : List (List Int)} {k : Nat} {t : List Int} (h : w.ownsRow base 23 16 v n (flatT l)) (hn : n = l.length) (ht : ∀ t ∈ l, t.length = 16) (hk : l[k]? = some t) :
    ∃ g c, v = .slice (some ⟨g, 0, none⟩) n c ∧ n ≤ c ∧ w.rangeAt g (k * 16) (t.map (Value.int .u8)) := by
  have hkl : k < l.length := (List.getElem?_eq_some_iff.1 hk).1
  obtain ⟨A, c, rfl, hc, _, hr⟩ := own_slice h
  obtain ⟨g, rfl, hb, hg, ho⟩ := hr (by omega)
  refine ⟨g, c, rfl, hc, fun j u hu => ?_⟩
  have hj : j < 16 := by
    have := (List.getElem?_eq_some_iff.1 hu).1
    rwa [List.length_map, ht t (List.mem_of_getElem? hk)] at this
  have h1 := flatT_at l ht k j t hk hj
  rw [hu] at h1
  have h2 := h.cells ho (k * 16 + j) u h1
  rwa [Addr.add_mid, Nat.zero_add] at h2
theorem mem_take_succ {l : List (List Int)} {k : Nat} {t tag : List Int} (h : l[k]? = some t) : (tag ∈ l.take (k + 1)) ↔ (tag ∈ l.take k ∨ t = tag) := by
  rw [List.take_add_one, h, List.mem_append]
  simp [eq_comm]
set_option maxRecDepth 100000 in
set_option maxHeartbeats 8000000 in
theorem room_at (A : Option Addr) (n c : Nat) (xs : List Ac) (w : World) (h : Acts w A n xs) (hn : n ≤ maxLen) :
    Calls Try.prog 5 #[.slice A n c] w fun e w' => e = .returned (.bool true) ∧ Below w.heap.size w w' := by
  have HA := Lib.hid h
  have HUT := Lib.hid Try.underlying23
  have HUA := Lib.hid Try.underlying27
  have HAL := Lib.hid alloc_actR
  have HZL : Hid (zActR.length = 19) := Lib.hid rfl
  generalize zActR = Z at HAL HZL
  have HNM := Lib.hid hn
  clear h hn
  by_cases h100 : 100 < n
  · have hn1 : decide ((100 : Int) < (n : Int)) = true := by simp; omega
    clear h100
    go_enter Try.func5, Try.ntmps5
    go_wp2_with fail
    refine (alive_any _).mono ?_
    rintro e w2 ⟨rfl, hb2⟩
    have HB2 := Lib.hid hb2
    clear hb2
    go_wp2_with fail
    refine (alive_any _).mono ?_
    rintro e w3 ⟨rfl, hb3⟩
    have HB3 := Lib.hid (HB2.out.trans (hb3.mono HB2.out.size))
    clear hb3
    go_wp2_with fail
    go_ret
    exact ⟨rfl, HB3.out⟩
  · have hn1 : decide ((100 : Int) < (n : Int)) = false := by simp; omega
    have hn2 : n ≤ 100 := by omega
    clear h100
    go_enter Try.func5, Try.ntmps5
    go_wp2_with fail
    refine (alive_any _).mono ?_
    rintro e w2 ⟨rfl, hb2⟩
    have HB2 := Lib.hid hb2
    clear hb2
    go_wp2_with fail
    refine (new_any _).mono ?_
    rintro e w3 ⟨rfl, rfl⟩
    obtain ⟨T, hT⟩ : ∃ T, w2.heap.size = T := ⟨_, rfl⟩
    have ht := TabAt.new w2
    have hb := new_below w2 (.cells (tabC eightG).toArray 63)
    have htw : w.heap.size ≤ T := by have := HB2.out.size; omega
    rw [hT] at ht ⊢
    generalize w2.alloc (.cells (tabC eightG).toArray 63) = w4 at ht hb ⊢
    have HTB4 := Lib.hid ht
    have HB4 := Lib.hid (HB2.out.trans (hb.mono HB2.out.size))
    have HTW := Lib.hid htw
    clear ht hb htw hT
    go_wp2_with fail
    go_loopw [4, 5] (fun v iv wr => ∃ (j : Nat) (a L : List Gd) (l : List (List Int)), j ≤ n ∧ iv = .int .i64 (j : Int) ∧ TabAt wr T a ∧ Full a L l ∧ (∀ t ∈ l, t.length = 16) ∧ wr.ownsRow w.heap.size 23 16 v l.length (flatT l) ∧ Below w.heap.size w wr) (fun _ i _ => n - (intOf i).toNat)
    case atStart => exact ⟨0, eightG, [], [], Nat.zero_le _, rfl, HTB4.out, full_new, by simp, own_nil _ _ _ _, HB4.out⟩
    case round =>
      obtain ⟨j, a, L, l, hj, rfl, htb, hf, hl16, ho, hbr⟩ := hrel
      obtain ⟨m, hm⟩ : ∃ m, l.length = m := ⟨_, rfl⟩
      rw [hm] at ho
      obtain ⟨AV, cv, rfl, -, -, -⟩ := own_slice ho
      have HTB := Lib.hid htb
      have HF := Lib.hid hf
      have HL16 := Lib.hid hl16
      have HO := Lib.hid ho
      have HBr := Lib.hid hbr
      have HM := Lib.hid hm
      have hm8 : m ≤ 8 := by rw [← hm]; exact hf.le
      clear htb hf hl16 ho hbr hm
      by_cases hlt : j < n
      · obtain ⟨b, off, rfl, hbl, hrow⟩ := HA.out.row (by omega)
        obtain ⟨x, hx⟩ : ∃ x, xs[j]? = some x := ⟨_, List.getElem?_eq_getElem (by rw [HA.out.len]; exact hlt)⟩
        have hox := HA.out.ok x (List.mem_of_getElem? hx)
        have hrx : ∀ W, Below w.heap.size w W → W.rangeAt b (off + j * 19) (acC x) := fun W hb i v hv => (hb.cell (p := ⟨b, off + j * 19 + i, none⟩) hbl).trans (hrow j x hx i v hv)
        have hqp : ∀ (W : World) (Q : Nat), Blk W Q 27 (acC x) → W.rangeAt Q 1 (x.tag.map (Value.int .u8)) ∧ W.cell? ⟨Q, 17, none⟩ = some (.int .u32 x.spot) ∧ W.cell? ⟨Q, 18, none⟩ = some (.int .u32 x.ticks) := fun W Q hq => by
          have := (ac_at hq.range hox.tag).2
          rwa [Nat.zero_add, Nat.zero_add, Nat.zero_add] at this
        have hcl := acC_length hox.tag
        have hc1 := acC_oneR x
        obtain ⟨tag, htag⟩ : ∃ t, x.tag = t := ⟨_, rfl⟩
        have ht16 := hox.tag
        rw [htag] at ht16
        simp only [htag] at hqp
        obtain ⟨X, hX⟩ : ∃ X, tag.map (Value.int .u8) = X := ⟨_, rfl⟩
        have hxl : X.length = 16 := by rw [← hX, List.length_map, ht16]
        have hx1 : ∀ v ∈ X, v.oneCell' = true := by rw [← hX]; exact one_u8s _
        simp only [hX] at hqp
        obtain ⟨CX, hCX⟩ : ∃ C, acC x = C := ⟨_, rfl⟩
        rw [hCX] at hcl hc1
        simp only [hCX] at hrx hqp
        have HRX := Lib.hid hrx
        have HQP := Lib.hid (fun W (h : Blk W wr.heap.size 27 CX) => hqp W wr.heap.size h)
        have HQX := Lib.hid (fun W (h : Blk W wr.heap.size 27 CX) => (hqp W wr.heap.size h).1)
        have HCXL := Lib.hid hcl
        have HCX1 := Lib.hid hc1
        have HSX : Hid ((Try.prog.info? 27).map (·.size) = some CX.length) := Lib.hid (by rw [hcl]; exact size_actR)
        have HST : Hid ((Try.prog.info? 23).map (·.size) = some X.length) := Lib.hid (by rw [hxl]; exact size_tagR)
        have HX := Lib.hid hX
        have HXL := Lib.hid hxl
        have HX1 := Lib.hid hx1
        have HT16 := Lib.hid ht16
        have HOX := Lib.hid hox
        have HLTj := Lib.hid hlt
        have j0 : (0 : Int) ≤ (j : Int) := by omega
        have j1 : (j : Int) < (n : Int) := by omega
        clear hrow hx hox hrx hqp hcl hc1 htag ht16 hX hxl hx1 hCX hlt hj hbl
        go_upto_region 9 with (first
          | ((with_reducible refine wpList_isK (o := ⟨some 29, _, _, _, _, _⟩) ?_); refine wpList_readK (o := ⟨some 29, .load 27 _, _, _, _, _⟩) (v := .agg CX.toArray) (by rfl) (exec_loadM rfl b (off + j * 19) rfl CX _ (HRX.out wr HBr.out) HUA.out rfl HSX.out) ?_)
          | ((with_reducible refine wpList_isK (o := ⟨some 6, _, _, _, _, _⟩) ?_); refine wpList_allocT (o := ⟨some 6, .alloc 27, _, _, _, _⟩) rfl 27 Z (fun W => HAL.out W _ rfl _) ?_; intro w5 HQ5 HB5'; obtain ⟨Q, hQ⟩ : ∃ R, wr.heap.size = R := ⟨_, rfl⟩; rw [hQ] at HQ5 ⊢; have hQF := hQ; have HQQ := Lib.hid (show w.heap.size ≤ Q ∧ T < Q by have := HBr.out.size; have := HTB.out.blk.lt; omega); have HB5 := Lib.hid (HBr.out.trans (HB5'.out.mono HBr.out.size)); have HT5 := Lib.hid (HTB.out.below HB5'.out); have HO5 := Lib.hid (own_belowR HO.out HB5'.out); clear hQ HB5')
          | ((with_reducible refine wpList_isK (o := ⟨none, .store 27 (.tmp 6) (.tmp 29), _, _, _, _⟩) ?_); refine wpList_over (o := ⟨none, .store 27 (.tmp 6) _, _, _, _, _⟩) rfl 27 _ _ rfl Q CX Z 27 rfl rfl HQ5.out (by rw [HCXL.out, HZL.out]) HSX.out HCX1.out ?_; intro w6 HQ6 hk6; have HB6 := Lib.hid (below_keeps HB5.out hk6.out (Nat.le_refl _) (fun i hi => by rw [hi]; exact HQQ.out.1)); have HT6 := Lib.hid (HT5.out.keep hk6.out (fun h => by have := HQQ.out; omega)); have HO6 := Lib.hid (hk6.out.own HO5.out (fun k hk e => by subst e; exact own_blk_ne HO5.out HQ5.out (by decide) hk)); clear hk6))
        rw [hQF] at HQP HQX
        go_wp2_with fail
        go_loopw [7, 8] (fun uv kv wq => ∃ k : Nat, k ≤ m ∧ kv = .int .i64 (k : Int) ∧ uv = .bool (decide (tag ∈ l.take k)) ∧ Drawn w6 wq) (fun _ k _ => m - (intOf k).toNat)
        case atStart => exact ⟨0, Nat.zero_le _, rfl, by simp, Drawn.refl _⟩
        case round =>
          obtain ⟨k, hk, rfl, rfl, q, rfl⟩ := hrel
          by_cases hlt : k < m
          · obtain ⟨t, ht⟩ : ∃ t, l[k]? = some t := ⟨_, List.getElem?_eq_getElem (by rw [HM.out]; exact hlt)⟩
            obtain ⟨g, c2, hv, hc2, hrg⟩ := own_tagAt HO6.out HM.out.symm HL16.out ht
            injection hv with hv1 hv2 hv3
            subst hv1
            have h16 := HL16.out t (List.mem_of_getElem? ht)
            have hmem := mem_take_succ (tag := tag) ht
            have heq := fun W => tag_eq t tag h16 HT16.out W
            have hsz : (Try.prog.info? 23).map (·.size) = some (t.map (Value.int .u8)).length := by rw [List.length_map, h16]; exact size_tagR
            obtain ⟨V, hV⟩ : ∃ V, t.map (Value.int .u8) = V := ⟨_, rfl⟩
            rw [hV] at hrg hsz
            simp only [hV, HX.out] at heq
            have HRG := Lib.hid hrg
            have HSV := Lib.hid hsz
            have HMEM := Lib.hid hmem
            have HLT := Lib.hid hlt
            have i0 : (0 : Int) ≤ (k : Int) := by omega
            have i1 : (k : Int) < (m : Int) := by omega
            clear ht hv2 hv3 hc2 hrg h16 hmem hsz hV hlt hk
            by_cases hin : tag ∈ l.take k
            · have HIN := Lib.hid hin
              rw [decide_eq_true hin]
              clear hin heq
              go_upto_region 13 with fail
              refine wp_region_noPanic ?_
              refine wp_region_held_drew (S := (fun w' => True)) (by kernel_rfl) ?_ (fun hHeld => ?_)
              · ((try dsimp only) <;> (first | assumption | (go_keep; done)))
              refine wpAnyH_take (i := 0) (oi := ⟨some 36, _, _, _, _, _⟩) (v := ?_) rfl (by kernel_rfl) (by kernel_rfl) (by kernel_rfl) (fun _ _ _ h => False.elim h) (Or.inl ⟨by rfl, ?_⟩) (by assumption) ?_
              rotate_left
              · intro w hSw
                (try dsimp only at hSw)
                go_simp
                all_goals with_reducible rfl
              (try simp only [Act.put, List.setIfInBounds_toArray, List.set_cons_zero, List.set_cons_succ])
              refine wpAnyH_take (i := 1) (oi := ⟨some 37, _, _, _, _, _⟩) (v := ?_) rfl (by kernel_rfl) (by kernel_rfl) (by kernel_rfl) (fun _ _ _ h => False.elim h) (Or.inl ⟨by rfl, ?_⟩) (by assumption) ?_
              rotate_left
              · intro w hSw
                (try dsimp only at hSw)
                go_simp
                all_goals with_reducible rfl
              (try simp only [Act.put, List.setIfInBounds_toArray, List.set_cons_zero, List.set_cons_succ])
              refine wpAnyH_take (i := 2) (oi := ⟨some 38, _, _, _, _, _⟩) (v := undef) rfl (by kernel_rfl) (by kernel_rfl) (by kernel_rfl) (fun _ _ _ h => False.elim h) (Or.inr ⟨by rfl, rfl⟩) (by assumption) ?_
              (try simp only [Act.put, List.setIfInBounds_toArray, List.set_cons_zero, List.set_cons_succ])
              refine wpAnyH_take (i := 3) (oi := ⟨some 39, _, _, _, _, _⟩) (v := undef) rfl (by kernel_rfl) (by kernel_rfl) (by kernel_rfl) (fun _ _ _ h => False.elim h) (Or.inr ⟨by rfl, rfl⟩) (by assumption) ?_
              (try simp only [Act.put, List.setIfInBounds_toArray, List.set_cons_zero, List.set_cons_succ])
              refine wpAnyH_take (i := 4) (oi := ⟨some 40, _, _, _, _, _⟩) (v := undef) rfl (by kernel_rfl) (by kernel_rfl) (by kernel_rfl) (fun _ _ _ h => False.elim h) (Or.inr ⟨by rfl, rfl⟩) (by assumption) ?_
              (try simp only [Act.put, List.setIfInBounds_toArray, List.set_cons_zero, List.set_cons_succ])
              refine wpAnyH_take (i := 5) (oi := ⟨some 41, _, _, _, _, _⟩) (v := undef) rfl (by kernel_rfl) (by kernel_rfl) (by kernel_rfl) (fun _ _ _ h => False.elim h) (Or.inr ⟨by rfl, rfl⟩) (by assumption) ?_
              (try simp only [Act.put, List.setIfInBounds_toArray, List.set_cons_zero, List.set_cons_succ])
              refine wpAnyH_take (i := 6) (oi := ⟨some 42, _, _, _, _, _⟩) (v := undef) rfl (by kernel_rfl) (by kernel_rfl) (by kernel_rfl) (fun _ _ _ h => False.elim h) (Or.inr ⟨by rfl, rfl⟩) (by assumption) ?_
              (try simp only [Act.put, List.setIfInBounds_toArray, List.set_cons_zero, List.set_cons_succ])
              refine wpAnyH_take (i := 7) (oi := ⟨some 43, _, _, _, _, _⟩) (v := undef) rfl (by kernel_rfl) (by kernel_rfl) (by kernel_rfl) (fun _ _ _ h => False.elim h) (Or.inr ⟨by rfl, rfl⟩) (by assumption) ?_
              (try simp only [Act.put, List.setIfInBounds_toArray, List.set_cons_zero, List.set_cons_succ])
              refine wpAnyH_take (i := 8) (oi := ⟨some 44, _, _, _, _, _⟩) (v := undef) rfl (by kernel_rfl) (by kernel_rfl) (by kernel_rfl) (fun _ _ _ h => False.elim h) (Or.inr ⟨by rfl, rfl⟩) (by assumption) ?_
              (try simp only [Act.put, List.setIfInBounds_toArray, List.set_cons_zero, List.set_cons_succ])
              refine wpAnyH_take (i := 9) (oi := ⟨some 45, _, _, _, _, _⟩) (v := ?_) rfl (by kernel_rfl) (by kernel_rfl) (by kernel_rfl) (fun _ _ _ h => False.elim h) (Or.inl ⟨by rfl, ?_⟩) (by assumption) ?_
              rotate_left
              · intro w hSw
                (try dsimp only at hSw)
                go_simp
                all_goals with_reducible rfl
              (try simp only [Act.put, List.setIfInBounds_toArray, List.set_cons_zero, List.set_cons_succ])
              refine wpAnyH_take (i := 10) (oi := ⟨some 7, _, _, _, _, _⟩) (v := ?_) rfl (by kernel_rfl) (by kernel_rfl) (by kernel_rfl) (fun _ _ _ h => False.elim h) (Or.inl ⟨by rfl, ?_⟩) (by assumption) ?_
              rotate_left
              · intro w hSw
                (try dsimp only at hSw)
                go_simp
                all_goals with_reducible rfl
              (try simp only [Act.put, List.setIfInBounds_toArray, List.set_cons_zero, List.set_cons_succ])
              refine wpAnyH_done (by kernel_rfl) ?_ _
              refine NoPanic.normal ?_
              clear hHeld
              go_wp2_with fail
              go_roundw
              case rel => exact ⟨k + 1, by have := HLT.out; omega, by go_num, by rw [decide_eq_true (HMEM.out.2 (.inl HIN.out))], _, rfl⟩
              case measure => simp [intOf]; have := HLT.out; omega
            · have HIN := Lib.hid hin
              rw [decide_eq_false hin]
              clear hin
              by_cases htt : t = tag
              · have hst : ∀ W, Sem.run Try.prog (Op.equalIn 10000 23 (.agg V.toArray) (.agg X.toArray)) W = .ok true W := fun W => by rw [heq W]; simp [htt]
                have HTT := Lib.hid htt
                clear heq htt
                go_upto_region 13 with fail
                have g1 : (w6.drewN q).drew.rangeAt g (k * 16) V := HRG.out
                have g2 : (w6.drewN q).drew.rangeAt Q 1 X := HQX.out w6 HQ6.out
                refine wp_region_noPanic ?_
                refine wp_region_held_drew (S := (fun w' => w'.rangeAt g (k * 16) V ∧ w'.rangeAt Q 1 X)) (by kernel_rfl) ?_ (fun hHeld => ?_)
                · ((try dsimp only); refine ⟨?_, ?_⟩ <;> (first | assumption | (go_keep; done)))
                refine wpAnyH_take (i := 0) (oi := ⟨some 36, _, _, _, _, _⟩) (v := ?_) rfl (by kernel_rfl) (by kernel_rfl) (by kernel_rfl) (fun _ _ _ h => False.elim h) (Or.inl ⟨by rfl, ?_⟩) (by assumption) ?_
                rotate_left
                · intro w hSw
                  (try dsimp only at hSw)
                  go_simp
                  all_goals with_reducible rfl
                (try simp only [Act.put, List.setIfInBounds_toArray, List.set_cons_zero, List.set_cons_succ])
                refine wpAnyH_take (i := 1) (oi := ⟨some 37, _, _, _, _, _⟩) (v := ?_) rfl (by kernel_rfl) (by kernel_rfl) (by kernel_rfl) (fun _ _ _ h => False.elim h) (Or.inl ⟨by rfl, ?_⟩) (by assumption) ?_
                rotate_left
                · intro w hSw
                  (try dsimp only at hSw)
                  go_simp
                  all_goals with_reducible rfl
                (try simp only [Act.put, List.setIfInBounds_toArray, List.set_cons_zero, List.set_cons_succ])
                refine wpAnyH_take (i := 2) (oi := ⟨some 38, _, _, _, _, _⟩) (v := ?_) rfl (by kernel_rfl) (by kernel_rfl) (by kernel_rfl) (fun _ _ _ h => False.elim h) (Or.inl ⟨by rfl, ?_⟩) (by assumption) ?_
                rotate_left
                · intro w hSw
                  (try dsimp only at hSw)
                  go_simp
                  all_goals with_reducible rfl
                (try simp only [Act.put, List.setIfInBounds_toArray, List.set_cons_zero, List.set_cons_succ])
                refine wpAnyH_take (i := 3) (oi := ⟨some 39, _, _, _, _, _⟩) (v := ?_) rfl (by kernel_rfl) (by kernel_rfl) (by kernel_rfl) (fun _ _ _ h => False.elim h) (Or.inl ⟨by rfl, ?_⟩) (by assumption) ?_
                rotate_left
                · intro w hSw
                  (try dsimp only at hSw)
                  go_simp
                  all_goals with_reducible rfl
                (try simp only [Act.put, List.setIfInBounds_toArray, List.set_cons_zero, List.set_cons_succ])
                refine wpAnyH_take (i := 4) (oi := ⟨some 40, _, _, _, _, _⟩) (v := ?_) rfl (by kernel_rfl) (by kernel_rfl) (by kernel_rfl) (fun _ _ _ h => False.elim h) (Or.inl ⟨by rfl, ?_⟩) (by assumption) ?_
                rotate_left
                · intro w hSw
                  (try dsimp only at hSw)
                  go_simp
                  all_goals with_reducible rfl
                (try simp only [Act.put, List.setIfInBounds_toArray, List.set_cons_zero, List.set_cons_succ])
                refine wpAnyH_take (i := 5) (oi := ⟨some 41, _, _, _, _, _⟩) (v := .agg V.toArray) rfl (by kernel_rfl) (by kernel_rfl) (by kernel_rfl) (fun _ _ _ h => False.elim h) ?_ (by assumption) ?_
                · refine yieldsIf_load_mid ?_ 23 _ rfl g (k * 16) rfl V _ ?_ HUT.out rfl HSV.out
                  · rfl
                  · (intro w hSw; (try dsimp only at hSw); go_split_ands; assumption)
                (try simp only [Act.put, List.setIfInBounds_toArray, List.set_cons_zero, List.set_cons_succ])
                refine wpAnyH_take (i := 6) (oi := ⟨some 42, _, _, _, _, _⟩) (v := ?_) rfl (by kernel_rfl) (by kernel_rfl) (by kernel_rfl) (fun _ _ _ h => False.elim h) (Or.inl ⟨by rfl, ?_⟩) (by assumption) ?_
                rotate_left
                · intro w hSw
                  (try dsimp only at hSw)
                  go_simp
                  all_goals with_reducible rfl
                (try simp only [Act.put, List.setIfInBounds_toArray, List.set_cons_zero, List.set_cons_succ])
                refine wpAnyH_take (i := 7) (oi := ⟨some 43, _, _, _, _, _⟩) (v := .agg X.toArray) rfl (by kernel_rfl) (by kernel_rfl) (by kernel_rfl) (fun _ _ _ h => False.elim h) ?_ (by assumption) ?_
                · refine yieldsIf_load_mid ?_ 23 _ rfl Q 1 rfl X _ ?_ HUT.out rfl HST.out
                  · rfl
                  · (intro w hSw; (try dsimp only at hSw); go_split_ands; assumption)
                (try simp only [Act.put, List.setIfInBounds_toArray, List.set_cons_zero, List.set_cons_succ])
                refine wpAnyH_take (i := 8) (oi := ⟨some 44, _, _, _, _, _⟩) (v := ?_) rfl (by kernel_rfl) (by kernel_rfl) (by kernel_rfl) (fun _ _ _ h => False.elim h) (Or.inl ⟨by rfl, ?_⟩) (by assumption) ?_
                rotate_left
                · intro w hSw
                  (try dsimp only at hSw)
                  go_simp
                  all_goals with_reducible rfl
                (try simp only [Act.put, List.setIfInBounds_toArray, List.set_cons_zero, List.set_cons_succ])
                refine wpAnyH_take (i := 9) (oi := ⟨some 45, _, _, _, _, _⟩) (v := ?_) rfl (by kernel_rfl) (by kernel_rfl) (by kernel_rfl) (fun _ _ _ h => False.elim h) (Or.inl ⟨by rfl, ?_⟩) (by assumption) ?_
                rotate_left
                · intro w hSw
                  (try dsimp only at hSw)
                  go_simp
                  all_goals with_reducible rfl
                (try simp only [Act.put, List.setIfInBounds_toArray, List.set_cons_zero, List.set_cons_succ])
                refine wpAnyH_take (i := 10) (oi := ⟨some 7, _, _, _, _, _⟩) (v := ?_) rfl (by kernel_rfl) (by kernel_rfl) (by kernel_rfl) (fun _ _ _ h => False.elim h) (Or.inl ⟨by rfl, ?_⟩) (by assumption) ?_
                rotate_left
                · intro w hSw
                  (try dsimp only at hSw)
                  go_simp
                  all_goals with_reducible rfl
                (try simp only [Act.put, List.setIfInBounds_toArray, List.set_cons_zero, List.set_cons_succ])
                refine wpAnyH_done (by kernel_rfl) ?_ _
                refine NoPanic.normal ?_
                clear hHeld hst g1 g2
                go_wp2_with fail
                go_roundw
                case rel => exact ⟨k + 1, by have := HLT.out; omega, by go_num, by rw [decide_eq_true (HMEM.out.2 (.inr HTT.out))], _, rfl⟩
                case measure => simp [intOf]; have := HLT.out; omega
              · have hst : ∀ W, Sem.run Try.prog (Op.equalIn 10000 23 (.agg V.toArray) (.agg X.toArray)) W = .ok false W := fun W => by rw [heq W]; simp [htt]
                have HTT := Lib.hid htt
                clear heq htt
                go_upto_region 13 with fail
                have g1 : (w6.drewN q).drew.rangeAt g (k * 16) V := HRG.out
                have g2 : (w6.drewN q).drew.rangeAt Q 1 X := HQX.out w6 HQ6.out
                refine wp_region_noPanic ?_
                refine wp_region_held_drew (S := (fun w' => w'.rangeAt g (k * 16) V ∧ w'.rangeAt Q 1 X)) (by kernel_rfl) ?_ (fun hHeld => ?_)
                · ((try dsimp only); refine ⟨?_, ?_⟩ <;> (first | assumption | (go_keep; done)))
                refine wpAnyH_take (i := 0) (oi := ⟨some 36, _, _, _, _, _⟩) (v := ?_) rfl (by kernel_rfl) (by kernel_rfl) (by kernel_rfl) (fun _ _ _ h => False.elim h) (Or.inl ⟨by rfl, ?_⟩) (by assumption) ?_
                rotate_left
                · intro w hSw
                  (try dsimp only at hSw)
                  go_simp
                  all_goals with_reducible rfl
                (try simp only [Act.put, List.setIfInBounds_toArray, List.set_cons_zero, List.set_cons_succ])
                refine wpAnyH_take (i := 1) (oi := ⟨some 37, _, _, _, _, _⟩) (v := ?_) rfl (by kernel_rfl) (by kernel_rfl) (by kernel_rfl) (fun _ _ _ h => False.elim h) (Or.inl ⟨by rfl, ?_⟩) (by assumption) ?_
                rotate_left
                · intro w hSw
                  (try dsimp only at hSw)
                  go_simp
                  all_goals with_reducible rfl
                (try simp only [Act.put, List.setIfInBounds_toArray, List.set_cons_zero, List.set_cons_succ])
                refine wpAnyH_take (i := 2) (oi := ⟨some 38, _, _, _, _, _⟩) (v := ?_) rfl (by kernel_rfl) (by kernel_rfl) (by kernel_rfl) (fun _ _ _ h => False.elim h) (Or.inl ⟨by rfl, ?_⟩) (by assumption) ?_
                rotate_left
                · intro w hSw
                  (try dsimp only at hSw)
                  go_simp
                  all_goals with_reducible rfl
                (try simp only [Act.put, List.setIfInBounds_toArray, List.set_cons_zero, List.set_cons_succ])
                refine wpAnyH_take (i := 3) (oi := ⟨some 39, _, _, _, _, _⟩) (v := ?_) rfl (by kernel_rfl) (by kernel_rfl) (by kernel_rfl) (fun _ _ _ h => False.elim h) (Or.inl ⟨by rfl, ?_⟩) (by assumption) ?_
                rotate_left
                · intro w hSw
                  (try dsimp only at hSw)
                  go_simp
                  all_goals with_reducible rfl
                (try simp only [Act.put, List.setIfInBounds_toArray, List.set_cons_zero, List.set_cons_succ])
                refine wpAnyH_take (i := 4) (oi := ⟨some 40, _, _, _, _, _⟩) (v := ?_) rfl (by kernel_rfl) (by kernel_rfl) (by kernel_rfl) (fun _ _ _ h => False.elim h) (Or.inl ⟨by rfl, ?_⟩) (by assumption) ?_
                rotate_left
                · intro w hSw
                  (try dsimp only at hSw)
                  go_simp
                  all_goals with_reducible rfl
                (try simp only [Act.put, List.setIfInBounds_toArray, List.set_cons_zero, List.set_cons_succ])
                refine wpAnyH_take (i := 5) (oi := ⟨some 41, _, _, _, _, _⟩) (v := .agg V.toArray) rfl (by kernel_rfl) (by kernel_rfl) (by kernel_rfl) (fun _ _ _ h => False.elim h) ?_ (by assumption) ?_
                · refine yieldsIf_load_mid ?_ 23 _ rfl g (k * 16) rfl V _ ?_ HUT.out rfl HSV.out
                  · rfl
                  · (intro w hSw; (try dsimp only at hSw); go_split_ands; assumption)
                (try simp only [Act.put, List.setIfInBounds_toArray, List.set_cons_zero, List.set_cons_succ])
                refine wpAnyH_take (i := 6) (oi := ⟨some 42, _, _, _, _, _⟩) (v := ?_) rfl (by kernel_rfl) (by kernel_rfl) (by kernel_rfl) (fun _ _ _ h => False.elim h) (Or.inl ⟨by rfl, ?_⟩) (by assumption) ?_
                rotate_left
                · intro w hSw
                  (try dsimp only at hSw)
                  go_simp
                  all_goals with_reducible rfl
                (try simp only [Act.put, List.setIfInBounds_toArray, List.set_cons_zero, List.set_cons_succ])
                refine wpAnyH_take (i := 7) (oi := ⟨some 43, _, _, _, _, _⟩) (v := .agg X.toArray) rfl (by kernel_rfl) (by kernel_rfl) (by kernel_rfl) (fun _ _ _ h => False.elim h) ?_ (by assumption) ?_
                · refine yieldsIf_load_mid ?_ 23 _ rfl Q 1 rfl X _ ?_ HUT.out rfl HST.out
                  · rfl
                  · (intro w hSw; (try dsimp only at hSw); go_split_ands; assumption)
                (try simp only [Act.put, List.setIfInBounds_toArray, List.set_cons_zero, List.set_cons_succ])
                refine wpAnyH_take (i := 8) (oi := ⟨some 44, _, _, _, _, _⟩) (v := ?_) rfl (by kernel_rfl) (by kernel_rfl) (by kernel_rfl) (fun _ _ _ h => False.elim h) (Or.inl ⟨by rfl, ?_⟩) (by assumption) ?_
                rotate_left
                · intro w hSw
                  (try dsimp only at hSw)
                  go_simp
                  all_goals with_reducible rfl
                (try simp only [Act.put, List.setIfInBounds_toArray, List.set_cons_zero, List.set_cons_succ])
                refine wpAnyH_take (i := 9) (oi := ⟨some 45, _, _, _, _, _⟩) (v := ?_) rfl (by kernel_rfl) (by kernel_rfl) (by kernel_rfl) (fun _ _ _ h => False.elim h) (Or.inl ⟨by rfl, ?_⟩) (by assumption) ?_
                rotate_left
                · intro w hSw
                  (try dsimp only at hSw)
                  go_simp
                  all_goals with_reducible rfl
                (try simp only [Act.put, List.setIfInBounds_toArray, List.set_cons_zero, List.set_cons_succ])
                refine wpAnyH_take (i := 10) (oi := ⟨some 7, _, _, _, _, _⟩) (v := ?_) rfl (by kernel_rfl) (by kernel_rfl) (by kernel_rfl) (fun _ _ _ h => False.elim h) (Or.inl ⟨by rfl, ?_⟩) (by assumption) ?_
                rotate_left
                · intro w hSw
                  (try dsimp only at hSw)
                  go_simp
                  all_goals with_reducible rfl
                (try simp only [Act.put, List.setIfInBounds_toArray, List.set_cons_zero, List.set_cons_succ])
                refine wpAnyH_done (by kernel_rfl) ?_ _
                refine NoPanic.normal ?_
                clear hHeld hst g1 g2
                go_wp2_with fail
                go_roundw
                case rel => exact ⟨k + 1, by have := HLT.out; omega, by go_num, by rw [decide_eq_false (fun hc => by rcases HMEM.out.1 hc with hc | hc; exact HIN.out hc; exact HTT.out hc)], _, rfl⟩
                case measure => simp [intOf]; have := HLT.out; omega
          · obtain rfl : k = m := by omega
            have hall : l.take k = l := List.take_of_length_le (by rw [HM.out]; exact Nat.le_refl _)
            rw [hall]
            have HB7 := Lib.hid (below_drawn HB6.out ⟨q, rfl⟩)
            have HT7 : Hid (TabAt (w6.drewN q) T a) := Lib.hid ⟨HT6.out.blk.drewN q, HT6.out.len, HT6.out.tags⟩
            have HO7 : Hid ((w6.drewN q).ownsRow w.heap.size 23 16 (.slice AV k cv) k (flatT l)) := Lib.hid (((Keeps.refl (fun _ => False) w6).drewN q).own HO6.out (fun _ _ h => h))
            have HQ7 : Hid (Blk (w6.drewN q) Q 27 CX) := Lib.hid (HQ6.out.drewN q)
            generalize w6.drewN q = w7 at HB7 HT7 HO7 HQ7 ⊢
            clear hlt hk hall HB6 HT6 HO6 HQ6
            have hroom := fun W hT => room_any T a tag W hT HF.out.al.nat HT16.out
            have hput := fun s k W hT => put_tab T a tag s k W hT HF.out.al.nat HT16.out
            simp only [HX.out] at hroom hput
            have HROOM := Lib.hid hroom
            have HPUT := Lib.hid hput
            have hq := HQP.out w7 HQ7.out
            obtain ⟨sp, hsp⟩ : ∃ s, x.spot = s := ⟨_, rfl⟩
            obtain ⟨tk, htk⟩ : ∃ s, x.ticks = s := ⟨_, rfl⟩
            have hus : 0 ≤ sp ∧ sp ≤ 4294967295 := by rw [← hsp]; exact HOX.out.spot
            have hut : 0 ≤ tk ∧ tk ≤ 4294967295 := by rw [← htk]; exact HOX.out.ticks
            have HSP := Lib.hid hsp
            have HTK := Lib.hid htk
            obtain ⟨q9, hq9⟩ : ∃ q, sp % 9 = q := ⟨_, rfl⟩
            obtain ⟨q50, hq50⟩ : ∃ q, tk % 50 = q := ⟨_, rfl⟩
            have hq9b : 0 ≤ q9 ∧ q9 < 9 := by omega
            have hq50b : 0 ≤ q50 ∧ q50 < 50 := by omega
            have hm9 : Int.tmod sp 9 = q9 := by rw [Int.tmod_eq_emod_of_nonneg hus.1]; exact hq9
            have hm50 : Int.tmod tk 50 = q50 := by rw [Int.tmod_eq_emod_of_nonneg hut.1]; exact hq50
            have hw9 : IntKind.u32.wrap (1 + q9) = 1 + q9 := IntWalk.u32_in _ (by omega)
            have hw50 : IntKind.u32.wrap (200 + q50) = 200 + q50 := IntWalk.u32_in _ (by omega)
            have HW := Lib.hid (And.intro (And.intro hus hut) (And.intro (And.intro hq9 hq50) (And.intro (And.intro hq9b hq50b) (And.intro (And.intro hm9 hm50) (And.intro hw9 hw50)))))
            clear hroom hput hq hsp htk hus hut hq9 hq50 hq9b hq50b hm9 hm50 hw9 hw50
            by_cases hin : tag ∈ l
            · have HC : Hid (tag ∈ l ∨ l.length < 8) := Lib.hid (.inl hin)
              have HIN := Lib.hid hin
              rw [decide_eq_true hin]
              clear hin
              go_wp2_with ((with_reducible refine wpList_isK (o := ⟨some 48, _, _, _, _, _⟩) ?_); refine wpList_readK (o := ⟨some 48, .load 23 _, _, _, _, _⟩) (v := .agg X.toArray) (by rfl) (exec_loadM rfl Q 1 rfl X _ (HQX.out w7 HQ7.out) HUT.out rfl HST.out) ?_)
              refine (HROOM.out w7 HT7.out).mono ?_
              rintro e w8 ⟨rfl, hb8⟩
              rw [(HF.out.room tag).1 HC.out]
              have HB8 := Lib.hid (HB7.out.trans (hb8.mono HB7.out.size))
              have HT8 := Lib.hid (HT7.out.below hb8)
              have HO8 := Lib.hid (own_belowR HO7.out hb8)
              have HQ8 := Lib.hid (HQ7.out.below hb8 HQ7.out.lt)
              have hq8 := HQP.out w8 HQ8.out
              rw [HSP.out, HTK.out] at hq8
              have d17 := hq8.2.1
              have d18 := hq8.2.2
              have hus := HW.out.1.1
              have hut := HW.out.1.2
              have hm9 := HW.out.2.2.2.1.1
              have hm50 := HW.out.2.2.2.1.2
              have hq9 := HW.out.2.1.1
              have hq50 := HW.out.2.1.2
              have hw9 := HW.out.2.2.2.2.1
              have hw50 := HW.out.2.2.2.2.2
              clear hb8 hq8 HB7 HT7 HO7 HQ7
              go_wp2_with ((with_reducible refine wpList_isK (o := ⟨some 52, _, _, _, _, _⟩) ?_); refine wpList_readK (o := ⟨some 52, .load 23 _, _, _, _, _⟩) (v := .agg X.toArray) (by rfl) (exec_loadM rfl Q 1 rfl X _ (HQX.out w8 HQ8.out) HUT.out rfl HST.out) ?_)
              refine (HPUT.out (1 + q9) (200 + q50) w8 HT8.out).mono ?_
              rintro e w9 ⟨E, a', rfl, hp, ht9, hk9⟩
              clear hm9 hm50 hq9 hq50 hw9 hw50 hus hut d17 d18
              have hpp := HF.out.put hp (by have := HW.out.2.2.1.1; omega) (by have := HW.out.2.2.1.2; omega)
              obtain ⟨rfl, L', hf'⟩ := hpp.1 HC.out
              have HF' := Lib.hid hf'
              have HT9 := Lib.hid ht9
              have HB9 := Lib.hid (keep_below HB8.out hk9 HTW.out)
              have HO9 := Lib.hid (hk9.own HO8.out (fun k hk e => by subst e; exact own_blk_ne HO8.out HT8.out.blk (by decide) hk))
              have HQ9 := Lib.hid (HQ8.out.keep hk9 (fun h => by have := HQQ.out; omega))
              clear hp ht9 hk9 hpp hf' HT8 HB8 HO8 HQ8
              rw [if_pos HIN.out] at HF'
              go_wp2_with fail
              refine (len_tab T a' w9 HT9.out HF'.out.al.nat).mono ?_
              rintro e w10 ⟨rfl, hb10⟩
              rw [HF'.out.len, HM.out]
              have HT10 := Lib.hid (HT9.out.below hb10)
              have HB10 := Lib.hid (HB9.out.trans (hb10.mono HB9.out.size))
              have HO10 := Lib.hid (own_belowR HO9.out hb10)
              clear hb10
              go_wp2_with fail
              go_roundw
              case rel => exact ⟨j + 1, a', L', l, by have := HLTj.out; omega, by go_num, HT10.out, HF'.out, HL16.out, (by rw [HM.out]; exact HO10.out), HB10.out⟩
              case measure => simp [intOf]; have := HLTj.out; omega
            · have HIN := Lib.hid hin
              rw [decide_eq_false hin]
              by_cases h8 : k < 8
              · have HC : Hid (tag ∈ l ∨ l.length < 8) := Lib.hid (.inr (by rw [HM.out]; exact h8))
                have HK8 := Lib.hid h8
                clear hin h8
                go_wp2_with ((with_reducible refine wpList_isK (o := ⟨some 48, _, _, _, _, _⟩) ?_); refine wpList_readK (o := ⟨some 48, .load 23 _, _, _, _, _⟩) (v := .agg X.toArray) (by rfl) (exec_loadM rfl Q 1 rfl X _ (HQX.out w7 HQ7.out) HUT.out rfl HST.out) ?_)
                refine (HROOM.out w7 HT7.out).mono ?_
                rintro e w8 ⟨rfl, hb8⟩
                rw [(HF.out.room tag).1 HC.out]
                have HB8 := Lib.hid (HB7.out.trans (hb8.mono HB7.out.size))
                have HT8 := Lib.hid (HT7.out.below hb8)
                have HO8 := Lib.hid (own_belowR HO7.out hb8)
                have HQ8 := Lib.hid (HQ7.out.below hb8 HQ7.out.lt)
                have hq8 := HQP.out w8 HQ8.out
                rw [HSP.out, HTK.out] at hq8
                have d17 := hq8.2.1
                have d18 := hq8.2.2
                have hus := HW.out.1.1
                have hut := HW.out.1.2
                have hm9 := HW.out.2.2.2.1.1
                have hm50 := HW.out.2.2.2.1.2
                have hq9 := HW.out.2.1.1
                have hq50 := HW.out.2.1.2
                have hw9 := HW.out.2.2.2.2.1
                have hw50 := HW.out.2.2.2.2.2
                clear hb8 hq8 HB7 HT7 HO7 HQ7
                go_wp2_with ((with_reducible refine wpList_isK (o := ⟨some 52, _, _, _, _, _⟩) ?_); refine wpList_readK (o := ⟨some 52, .load 23 _, _, _, _, _⟩) (v := .agg X.toArray) (by rfl) (exec_loadM rfl Q 1 rfl X _ (HQX.out w8 HQ8.out) HUT.out rfl HST.out) ?_)
                refine (HPUT.out (1 + q9) (200 + q50) w8 HT8.out).mono ?_
                rintro e w9 ⟨E, a', rfl, hp, ht9, hk9⟩
                clear hm9 hm50 hq9 hq50 hw9 hw50 hus hut d17 d18
                have hpp := HF.out.put hp (by have := HW.out.2.2.1.1; omega) (by have := HW.out.2.2.1.2; omega)
                obtain ⟨rfl, L', hf'⟩ := hpp.1 HC.out
                have HF' := Lib.hid hf'
                have HT9 := Lib.hid ht9
                have HB9 := Lib.hid (keep_below HB8.out hk9 HTW.out)
                have HO9 := Lib.hid (hk9.own HO8.out (fun k hk e => by subst e; exact own_blk_ne HO8.out HT8.out.blk (by decide) hk))
                have HQ9 := Lib.hid (HQ8.out.keep hk9 (fun h => by have := HQQ.out; omega))
                clear hp ht9 hk9 hpp hf' HT8 HB8 HO8 HQ8
                rw [if_neg HIN.out] at HF'
                have k8 : (k : Int) < 8 := by have := HK8.out; omega
                have HBS := Lib.hid (fun W => run_slice_tag tag HT16.out W)
                have HTL : Hid ((l ++ [tag]).length = k + 1) := Lib.hid (by rw [List.length_append, HM.out]; rfl)
                simp only [HX.out] at HBS
                go_upto_region 19 with fail
                rename_i K0 hK0
                refine wp_region_lit ?_
                refine wpList_readK (o := ⟨some 100, _, _, _, _, _⟩) (v := .slice AV k cv) (by rfl) (by kernel_rfl) ?_
                refine wpList_readK (o := ⟨some 101, _, _, _, _, _⟩) (v := .pointer (some ⟨Q, 1, none⟩)) (by rfl) (by kernel_rfl) ?_
                refine wpList_readK (o := ⟨some 102, .load 23 _, _, _, _, _⟩) (v := .agg X.toArray) (by rfl) (exec_loadM rfl Q 1 rfl X _ (HQX.out w9 HQ9.out) HUT.out rfl HST.out) ?_
                refine wpList_value (o := ⟨some 103, .buildSlice 56 1 _, _, _, _, _⟩) (v := .slice (some ⟨w9.heap.size, 0, none⟩) 1 1) (w' := w9.alloc (.cells X.toArray 23)) rfl (exec_sliceK rfl (by simpa [Act.eval, Act.put] using HBS.out w9)) ?_
                refine append_one (W := w9) w.heap.size rfl _ _ 56 23 (.agg ((List.replicate 16 (0 : Int)).map (Value.int .u8)).toArray) 16 16 rfl Try.underlying56 info_tagR rfl (by omega) (by omega) (.slice AV k cv) k (flatT l) X rfl rfl HXL.out HX1.out HO9.out HB9.out.size (by have := HK8.out; omega) ?_
                intro v1 w10 ho10 hk10 hat10
                have HB10 := Lib.hid (show Below w.heap.size w w10 from below_keeps HB9.out hk10 (Nat.le_refl _) (fun i hi => (own_base HO9.out i hi).1))
                have HT10 := Lib.hid (HT9.out.keep hk10 (fun h => own_blk_ne HO9.out HT9.out.blk (by decide) h))
                have HO10 : Hid (w10.ownsRow w.heap.size 23 16 v1 (k + 1) (flatT (l ++ [tag]))) := Lib.hid (by rw [flatT_snoc, HX.out]; exact ho10)
                obtain ⟨A1, c1, rfl, -, -, -⟩ := own_slice HO10.out
                clear hk10 hat10 ho10 k8 HBS
                go_wp2_with fail
                refine (len_tab T a' w10 HT10.out HF'.out.al.nat).mono ?_
                rintro e w11 ⟨rfl, hb11⟩
                rw [HF'.out.len, HTL.out]
                have HT11 := Lib.hid (HT10.out.below hb11)
                have HB11 := Lib.hid (HB10.out.trans (hb11.mono HB10.out.size))
                have HO11 := Lib.hid (own_belowR HO10.out hb11)
                clear hb11
                go_wp2_with fail
                go_roundw
                case rel => exact ⟨j + 1, a', L', l ++ [tag], by have := HLTj.out; omega, by go_num, HT11.out, HF'.out, (fun t ht => by rcases List.mem_append.1 ht with h | h; exact HL16.out t h; rw [List.mem_singleton.1 h]; exact HT16.out), (by rw [HTL.out]; exact HO11.out), HB11.out⟩
                case measure => simp [intOf]; have := HLTj.out; omega
              · have HC : Hid (¬ (tag ∈ l ∨ l.length < 8)) := Lib.hid (by rw [HM.out]; rintro (h | h); exact hin h; exact h8 h)
                have HK8 := Lib.hid h8
                clear hin h8
                go_wp2_with ((with_reducible refine wpList_isK (o := ⟨some 48, _, _, _, _, _⟩) ?_); refine wpList_readK (o := ⟨some 48, .load 23 _, _, _, _, _⟩) (v := .agg X.toArray) (by rfl) (exec_loadM rfl Q 1 rfl X _ (HQX.out w7 HQ7.out) HUT.out rfl HST.out) ?_)
                refine (HROOM.out w7 HT7.out).mono ?_
                rintro e w8 ⟨rfl, hb8⟩
                rw [(HF.out.room tag).2 HC.out]
                have HB8 := Lib.hid (HB7.out.trans (hb8.mono HB7.out.size))
                have HT8 := Lib.hid (HT7.out.below hb8)
                have HO8 := Lib.hid (own_belowR HO7.out hb8)
                have HQ8 := Lib.hid (HQ7.out.below hb8 HQ7.out.lt)
                have hq8 := HQP.out w8 HQ8.out
                rw [HSP.out, HTK.out] at hq8
                have d17 := hq8.2.1
                have d18 := hq8.2.2
                have hus := HW.out.1.1
                have hut := HW.out.1.2
                have hm9 := HW.out.2.2.2.1.1
                have hm50 := HW.out.2.2.2.1.2
                have hq9 := HW.out.2.1.1
                have hq50 := HW.out.2.1.2
                have hw9 := HW.out.2.2.2.2.1
                have hw50 := HW.out.2.2.2.2.2
                clear hb8 hq8 HB7 HT7 HO7 HQ7
                go_wp2_with ((with_reducible refine wpList_isK (o := ⟨some 52, _, _, _, _, _⟩) ?_); refine wpList_readK (o := ⟨some 52, .load 23 _, _, _, _, _⟩) (v := .agg X.toArray) (by rfl) (exec_loadM rfl Q 1 rfl X _ (HQX.out w8 HQ8.out) HUT.out rfl HST.out) ?_)
                refine (HPUT.out (1 + q9) (200 + q50) w8 HT8.out).mono ?_
                rintro e w9 ⟨E, a', rfl, hp, ht9, hk9⟩
                clear hm9 hm50 hq9 hq50 hw9 hw50 hus hut d17 d18
                have hpp := HF.out.put hp (by have := HW.out.2.2.1.1; omega) (by have := HW.out.2.2.1.2; omega)
                obtain ⟨rfl, rfl⟩ := hpp.2 HC.out
                have HT9 := Lib.hid ht9
                have HB9 := Lib.hid (keep_below HB8.out hk9 HTW.out)
                have HO9 := Lib.hid (hk9.own HO8.out (fun k hk e => by subst e; exact own_blk_ne HO8.out HT8.out.blk (by decide) hk))
                have HQ9 := Lib.hid (HQ8.out.keep hk9 (fun h => by have := HQQ.out; omega))
                clear hp ht9 hk9 hpp HT8 HB8 HO8 HQ8
                have k8 : ¬ (k : Int) < 8 := by have := HK8.out; omega
                go_wp2_with fail
                refine (len_tab T _ w9 HT9.out HF.out.al.nat).mono ?_
                rintro e w10 ⟨rfl, hb10⟩
                rw [HF.out.len, HM.out]
                have HT10 := Lib.hid (HT9.out.below hb10)
                have HB10 := Lib.hid (HB9.out.trans (hb10.mono HB9.out.size))
                have HO10 := Lib.hid (own_belowR HO9.out hb10)
                clear hb10
                go_wp2_with fail
                go_roundw
                case rel => exact ⟨j + 1, _, L, l, by have := HLTj.out; omega, by go_num, HT10.out, HF.out, HL16.out, (by rw [HM.out]; exact HO10.out), HB10.out⟩
                case measure => simp [intOf]; have := HLTj.out; omega
      · obtain rfl : j = n := by omega
        clear hlt hj
        go_wp2_with fail
        go_ret
        exact ⟨rfl, HBr.out⟩
end Go.Proofs.Ytadpgodmkodgdaa

namespace Go.Proofs.Ytadpgodmkodgdaa
open Go.RowKit Go.ChangeShapes Go.WideShapes
set_option linter.unusedSimpArgs false
set_option linter.unusedVariables false

set_option maxRecDepth 100000 in
theorem guidesRoom_walk {H : Type} {enc : TypeId × Value → H} {base : Nat} {d0 : DataW H} {p0 : List MemPlace} (v0 : Value) (w : World)
    (o0 : Value.okWide Try.prog w .any base 29 v0) (k0 : DataW.Trod enc Try.prog w 0 (fun _ => true) true 29 v0 d0 p0) (z0 : (d0.weights Try.prog 29).all (· ≤ reachBytes) = true) :
    Calls Try.prog 5 #[v0] w fun e w' => e = .returned (.bool true) ∧ Below w.heap.size w w' := by
  obtain ⟨f0, hf0⟩ := k0
  obtain ⟨A, n, c, xs, ep, hxs, hn⟩ := open_acts hf0
  obtain ⟨av, nv, cv, rfl⟩ : ∃ av nv cv, v0 = .slice av nv cv := okWide_slice Try.underlying29 o0
  simp only [Value.cells] at ep
  have ev : Value.slice av nv cv = .slice A n c := by simpa using ep
  rw [ev]
  exact room_at A n c xs w hxs hn
end Go.Proofs.Ytadpgodmkodgdaa
