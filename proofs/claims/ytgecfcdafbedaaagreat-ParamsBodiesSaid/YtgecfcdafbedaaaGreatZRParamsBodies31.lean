/- The walk over PutPuzzle. -/
import Derived.Test.YtgecfcdafbedaaaGreatZRParamsBodies30
import Derived.ArgAppend
namespace Go.Proofs.YtgecfcdafbedaaaGreat
open Go.RowKit
set_option linter.unusedSimpArgs false
set_option linter.unusedVariables false

/-- A step whose value is known. -/
theorem step_value {P : Program} {ops : Array Oper} {o : Oper} {a : Act} {w w' : World} {Q : Exit → Act → World → Prop} {K : Act → World → Prop} {E : Prop} {v : Value} (hgd : o.guard = none) (hr : (execOp a.eval o).run P w = .ok (.value v) w')
    (h : K (a.put o.dst v) w') : if Region.wanted o (yielded ops a.tmps) = true then Oper.wp P o a w K Q else E := by
  have hw : Region.wanted o (yielded ops a.tmps) = true := by simp [Region.wanted, hgd]
  rw [if_pos hw]
  unfold Oper.wp
  rw [hr]
  exact h
theorem yieldsIf_sliceA {P : Program} {ops : Array Oper} {a : Act} {S : World → Prop} {op : Oper} (hw : Region.wanted op (yielded ops a.tmps) = true) (t : TypeId) (x : Operand) (lo hi mx : Option Operand) (ho : op.op = .slice t x lo hi mx) (v : Value)
    (hr : ∀ W, (Instr.sliceAt t (a.eval x) (lo.map a.eval) (hi.map a.eval) (mx.map a.eval)).run P W = .ok v W) : YieldsIf P ops S op v a :=
  .inl ⟨hw, fun w _ => by
    unfold execOp
    simp only [ho, Sem.run_bind, Sem.run_pure, Result.andThen_ok, hr]⟩
def puzP (x y : Int) (bs : List Int) : List Value := [Value.int .u8 x, Value.int .u64 y] ++ bs.map (Value.int .u8)
theorem slice_sum2 (S : Nat) (W : World) : (Instr.sliceAt 27 (.pointer (some ⟨S, 2, none⟩)) none none none).run Tryz.prog W = .ok (.slice (some ⟨S, 2, none⟩) 32 32) W := by kernel_rfl
theorem run_slice_b1 (x : Int) (W : World) : (Instr.buildSlice 22 1 #[(0, .int .u8 x)]).run Tryz.prog W = .ok (.slice (some ⟨W.heap.size, 0, none⟩) 1 1) (W.alloc (.cells #[.int .u8 x] 5)) := by kernel_rfl
set_option maxRecDepth 100000 in
set_option maxHeartbeats 4000000 in
theorem putPuz_any (x y : Int) (bs : List Int) (w : World) (hx : 0 ≤ x ∧ x ≤ 255) (hy : 0 ≤ y ∧ y ≤ 18446744073709551615) (hl : bs.length = 32) (hb : ∀ u ∈ bs, 0 ≤ u ∧ u ≤ 255) :
    Calls Tryz.prog 29 #[.agg (puzP x y bs).toArray] w fun e w' => ∃ g, w.heap.size ≤ g ∧ e = .returned (.slice (some ⟨g, 0, none⟩) 41 41) ∧ Rd w' .u8 (some ⟨g, 0, none⟩) 41 ([x] ++ be y 8 ++ bs) ∧ Below w.heap.size w w' := by
  obtain ⟨S, hS⟩ : ∃ S, w.heap.size = S := ⟨_, rfl⟩
  have HS := Lib.hid hS
  have HSL := Lib.hid (slice_sum2 S)
  have e8 : putMany 8 = 8 := by decide
  have hp := fun w1 g (r : Rd w1 .u8 (some ⟨g, 0, none⟩) 1 [x]) => put_any (some ⟨g, 0, none⟩) 1 1 [x] y 8 w1 r (Nat.le_refl _) hy.1 hy.2
  rw [e8] at hp
  have hcells : ∀ w1, Blk w1 S 29 (puzP x y bs) → w1.cell? ⟨S, 0, none⟩ = some (.int .u8 x) ∧ w1.cell? ⟨S, 1, none⟩ = some (.int .u64 y) ∧ Rd w1 .u8 (some ⟨S, 2, none⟩) 32 bs := fun w1 hk => by
    refine ⟨by rw [hk.cell]; rfl, by rw [hk.cell]; rfl, hl, by omega, bytes_wf hb, fun _ => ⟨S, 2, rfl, hk.lt, fun j hj => ?_⟩⟩
    rw [hk.cell, puzP, List.getElem?_append_right (by simp)]
    simp [List.getElem?_eq_getElem (show j < bs.length by omega)]
  generalize puzP x y bs = X at hcells ⊢
  have HP := Lib.hid hp
  have HCE := Lib.hid hcells
  have HBS := Lib.hid (run_slice_b1 x)
  have HX := Lib.hid hx
  have HL := Lib.hid hl
  have HBB := Lib.hid hb
  clear hS e8 hp hcells hx hy hl hb
  go_enter Tryz.func29, Tryz.ntmps29
  go_upto_region 0 with fail
  refine wp_region_lit ?_
  refine wpList_boxT (o := ⟨some 1, .box 29 _, _, _, _, _⟩) rfl 29 _ rfl X rfl ?_; intro w1 HK1 HB1
  rw [HS.out] at HK1 ⊢
  obtain ⟨a0, a1, ar⟩ := HCE.out w1 HK1.out
  have HB1d := Lib.hid (show Below w.heap.size w w1.drew from ⟨HB1.out.os, HB1.out.tape, HB1.out.output, HB1.out.size, HB1.out.block⟩)
  obtain ⟨wb, hwb⟩ : ∃ wb, w1.drew.alloc (.cells #[.int .u8 x] 5) = wb := ⟨_, rfl⟩
  obtain ⟨G, hG⟩ : ∃ G, w1.drew.heap.size = G := ⟨_, rfl⟩
  have hbs := HBS.out w1.drew
  rw [hwb, hG] at hbs
  have hkb : Blk wb S 29 X := by rw [← hwb]; exact HK1.out.drew.alloc _
  have hgb : Blk wb G 5 [.int .u8 x] := by rw [← hwb, ← hG]; exact Blk.new _ _ _
  have hBb : Below w.heap.size w wb := by rw [← hwb]; exact HB1d.out.alloc HB1d.out.size _
  have HBSb := Lib.hid hbs
  have HKb := Lib.hid hkb
  have HBb := Lib.hid hBb
  have HRb : Hid (Rd wb .u8 (some ⟨G, 0, none⟩) 1 [x]) := Lib.hid (rd_of_blk hgb (fun u hu => by simp at hu; rw [hu]; exact HX.out) rfl (by omega))
  obtain ⟨b0, b1, br⟩ := HCE.out wb hkb
  clear hwb hG hbs hkb hgb hBb ar br
  go_upto_region 1 with fail
  refine wp_region_noPanic ?_
  refine wp_region_held_drew (S := (fun w' => w'.cell? ⟨S, 0, none⟩ = some (.int .u8 x) ∧ w'.cell? ⟨S, 1, none⟩ = some (.int .u64 y))) (by kernel_rfl) ?_ (fun hHeld => ?_)
  · ((try dsimp only); refine ⟨?_, ?_⟩ <;> (first | assumption | (go_keep; done)))
  refine wpAnyH_take (i := 0) (oi := ⟨some 3, _, _, _, _, _⟩) (v := ?_) rfl (by kernel_rfl) (by kernel_rfl) (by kernel_rfl) (fun _ _ _ h => False.elim h) (Or.inl ⟨by rfl, ?_⟩) (by assumption) ?_
  rotate_left
  · intro w hSw
    (try dsimp only at hSw)
    go_simp
    all_goals with_reducible rfl
  (try simp only [Act.put, List.setIfInBounds_toArray, List.set_cons_zero, List.set_cons_succ])
  refine wpAnyH_take (i := 1) (oi := ⟨some 4, _, _, _, _, _⟩) (v := ?_) rfl (by kernel_rfl) (by kernel_rfl) (by kernel_rfl) (fun _ _ _ h => False.elim h) (Or.inl ⟨by rfl, ?_⟩) (by assumption) ?_
  rotate_left
  · intro w hSw
    (try dsimp only at hSw)
    go_simp
    all_goals with_reducible rfl
  (try simp only [Act.put, List.setIfInBounds_toArray, List.set_cons_zero, List.set_cons_succ])
  refine wpAnyH_take (i := 3) (oi := ⟨some 6, _, _, _, _, _⟩) (v := ?_) rfl (by kernel_rfl) (by kernel_rfl) (by kernel_rfl) (fun _ _ _ h => False.elim h) (Or.inl ⟨by rfl, ?_⟩) (by assumption) ?_
  rotate_left
  · intro w hSw
    (try dsimp only at hSw)
    go_simp
    all_goals with_reducible rfl
  (try simp only [Act.put, List.setIfInBounds_toArray, List.set_cons_zero, List.set_cons_succ])
  refine wpAnyH_take (i := 4) (oi := ⟨some 7, _, _, _, _, _⟩) (v := ?_) rfl (by kernel_rfl) (by kernel_rfl) (by kernel_rfl) (fun _ _ _ h => False.elim h) (Or.inl ⟨by rfl, ?_⟩) (by assumption) ?_
  rotate_left
  · intro w hSw
    (try dsimp only at hSw)
    go_simp
    all_goals with_reducible rfl
  (try simp only [Act.put, List.setIfInBounds_toArray, List.set_cons_zero, List.set_cons_succ])
  refine wpAnyH_take (i := 6) (oi := ⟨some 9, _, _, _, _, _⟩) (v := ?_) rfl (by kernel_rfl) (by kernel_rfl) (by kernel_rfl) (fun _ _ _ h => False.elim h) (Or.inl ⟨by rfl, ?_⟩) (by assumption) ?_
  rotate_left
  · intro w hSw
    (try dsimp only at hSw)
    go_simp
    all_goals with_reducible rfl
  (try simp only [Act.put, List.setIfInBounds_toArray, List.set_cons_zero, List.set_cons_succ])
  refine wpAnyH_take (i := 7) (oi := ⟨some 10, _, _, _, _, _⟩) (v := .slice (some ⟨S, 2, none⟩) 32 32) rfl (by kernel_rfl) (by kernel_rfl) (by kernel_rfl) (fun _ _ _ h => False.elim h) ?_ (by assumption) ?_
  · exact yieldsIf_sliceA (by rfl) 27 _ _ _ _ rfl _ (fun W => by simpa [Act.eval, Act.put] using HSL.out W)
  (try simp only [Act.put, List.setIfInBounds_toArray, List.set_cons_zero, List.set_cons_succ])
  refine wpAnyH_ready (rs := [2]) (by kernel_rfl) (by simp) ?_
  refine AllReadyH.cons (o := ⟨some 5, _, _, _, _, _⟩) rfl (fun K hK => ?_) AllReadyH.nil
  (refine step_value (v := .slice (some ⟨G, 0, none⟩) 1 1) (w' := wb) rfl (by unfold execOp; simp only [Act.eval, Act.put]; simp [HBSb.out]) ?_)
  refine hK.out _ _ ?_ (fun hHeld => ?_)
  · ((try dsimp only); refine ⟨?_, ?_⟩ <;> (first | assumption | (go_keep; done)))
  clear hK K
  (try simp only [Act.put, List.setIfInBounds_toArray, List.set_cons_zero, List.set_cons_succ])
  refine wpAnyH_ready (rs := [5]) (by kernel_rfl) (by simp) ?_
  refine AllReadyH.cons (o := ⟨some 8, _, _, _, _, _⟩) rfl (fun K hK => ?_) AllReadyH.nil
  go_simp
  (refine (HP.out _ G HRb.out).mono ?_; rintro e w2 ⟨g2, hg2, rfl, hk2, hB2⟩; have HK2 : Hid (Blk w2 S 29 X) := Lib.hid (HKb.out.keep (Keeps.of_below (M := fun _ => False) hB2) (fun h => h)); obtain ⟨c0, c1, cr⟩ := HCE.out w2 HK2.out; have HR2 := Lib.hid cr; have HB2 := Lib.hid (HBb.out.trans (hB2.mono HBb.out.size)); have HG2 := Lib.hid (show S < g2 from Nat.lt_of_lt_of_le HKb.out.lt hg2); have h9 : ([x] ++ be y 8).length = 9 := (by simp [be_length]); have ho2 := own_of_blk (base := w.heap.size) hk2 (Nat.le_trans HBb.out.size hg2) (by omega); rw [h9] at ho2 ⊢; have HO2 := Lib.hid ho2; clear ho2 h9 hk2 hB2 hg2 cr)
  (try go_wp2_with fail)
  refine hK.out _ _ ?_ (fun hHeld => ?_)
  · ((try dsimp only); refine ⟨?_, ?_⟩ <;> (first | assumption | (go_keep; done)))
  clear hK K
  (try simp only [Act.put, List.setIfInBounds_toArray, List.set_cons_zero, List.set_cons_succ])
  refine wpAnyH_ready (rs := [8]) (by kernel_rfl) (by simp) ?_
  refine AllReadyH.cons (o := ⟨some 11, _, _, _, _, _⟩) rfl (fun K hK => ?_) AllReadyH.nil
  (refine step_append_bytes w.heap.size rfl _ _ rfl (.slice (some ⟨g2, 0, none⟩) 9 9) 9 ([x] ++ be y 8) (by simp [Act.eval, Act.put]) (some ⟨S, 2, none⟩) 32 32 bs (by simp [Act.eval, Act.put]) HR2.out (fun e => by cases e) HO2.out HB2.out.size (by omega) ?_; intro v3 w3 HO3 hg3 hat3; have HB3 := Lib.hid (grown_below HB2.out hg3 HO2.out (Nat.le_refl _)); have HR3 : Hid (w3.ownsRow w.heap.size 5 1 v3 41 (([x] ++ be y 8 ++ bs).map (Value.int .u8))) := HO3; have HK3 : Hid (Blk w3 S 29 X) := Lib.hid (HK2.out.keep (Keeps.grown (M := fun i => i = g2) (Keeps.refl _ w2) hg3 (fun k hk => .inl (by simp [Value.ownBlock] at hk; exact hk.symm))) (fun h => by have := HG2.out; omega)); obtain ⟨d0, d1, dr⟩ := HCE.out w3 HK3.out; obtain ⟨A3, c3, rfl, hc3, -, hA3⟩ := own_slice HO3.out; obtain ⟨g3, rfl, hg3b, hg3c, -⟩ := hA3 (by omega); clear hat3 hg3 dr)
  refine hK.out _ _ ?_ (fun hHeld => ?_)
  · ((try dsimp only); refine ⟨?_, ?_⟩ <;> (first | assumption | (go_keep; done)))
  clear hK K
  (try simp only [Act.put, List.setIfInBounds_toArray, List.set_cons_zero, List.set_cons_succ])
  refine wpAnyH_ready (rs := [9]) (by kernel_rfl) (by simp) ?_
  refine AllReadyH.cons (o := ⟨some 12, _, _, _, _, _⟩) rfl (fun K hK => ?_) AllReadyH.nil
  go_simp
  (refine (clip_all (some ⟨g3, 0, none⟩) 41 c3 w3 (by omega)).mono ?_; rintro e w4 ⟨rfl, rfl⟩)
  (try go_wp2_with fail)
  refine hK.out _ _ ?_ (fun hHeld => ?_)
  · ((try dsimp only); refine ⟨?_, ?_⟩ <;> (first | assumption | (go_keep; done)))
  clear hK K
  (try simp only [Act.put, List.setIfInBounds_toArray, List.set_cons_zero, List.set_cons_succ])
  refine wpAnyH_take (i := 10) (oi := ⟨some 2, _, _, _, _, _⟩) (v := ?_) rfl (by kernel_rfl) (by kernel_rfl) (by kernel_rfl) (fun _ _ _ h => False.elim h) (Or.inl ⟨by rfl, ?_⟩) (by assumption) ?_
  rotate_left
  · intro w hSw
    (try dsimp only at hSw)
    go_simp
    all_goals with_reducible rfl
  (try simp only [Act.put, List.setIfInBounds_toArray, List.set_cons_zero, List.set_cons_succ])
  refine wpAnyH_done (by kernel_rfl) ?_ _
  refine NoPanic.normal ?_
  go_wp2_with fail
  go_ret
  have hr := rd_own HR3.out (fun u hu => by
    rcases List.mem_append.1 hu with h | h
    · rcases List.mem_append.1 h with h | h
      · simp at h; rw [h]; exact HX.out
      · exact be_byte 8 y u h
    · exact HBB.out u h) (by omega)
  exact ⟨g3, hg3b, rfl, hr, HB3.out⟩
theorem exec_appendB {P : Program} {o : Oper} {a : Act} {w w' : World} {s x : Operand} {t : TypeId} {v : Value} {A : Addr} {m c : Nat} {v' : Value} (ho : o.op = .call { callee := .builtin .append, args := #[s, x], argTypes := #[t, t] }) (hs : a.eval s = v) (hx : a.eval x = .slice (some A) m c)
    (hr : (Builtin.append_ #[t, t] o.type #[v, .slice (some A) m c]).run P w = .ok v' w') : (execOp a.eval o).run P w = .ok (.value v') w' := by
  unfold execOp
  simp only [ho, resolve, invoke, builtin, Sem.run_bind, Sem.run_pure, Result.andThen_ok, List.map_toArray, List.map_cons, List.map_nil, hs, hx, hr]
set_option maxRecDepth 100000 in
/-- append behind a slice that is full: new memory. -/
theorem run_append_full {w : World} (ty : TypeId) (g n : Nat) (xs : List Int) (b off m c : Nat) (ys : List Int) (hr : Rd w .u8 (some ⟨g, 0, none⟩) n xs) (hs : Rd w .u8 (some ⟨b, off, none⟩) m ys) (hn : 0 < n) (hm : 0 < m) (hl : n + m ≤ 140737488355328) :
    ∃ v' w', (Builtin.append_ #[22, 22] ty #[.slice (some ⟨g, 0, none⟩) n n, .slice (some ⟨b, off, none⟩) m c]).run Tryz.prog w = .ok v' w' ∧ w'.ownsRow w.heap.size 5 1 v' (n + m) ((xs ++ ys).map (Value.int .u8)) ∧ w.grownBy w' none := by
  obtain ⟨i0, hi, hzz⟩ := Option.map_eq_some_iff.1 info_u8n
  simp only [Prod.mk.injEq] at hzz
  obtain ⟨hz0, hz1, hz2⟩ := hzz
  have hcell : ∀ (b off m : Nat) (ys : List Int), 0 < m → Rd w .u8 (some ⟨b, off, none⟩) m ys → ∀ j u, (ys.map (Value.int .u8))[j]? = some u → w.cell? ((⟨b, off, none⟩ : Addr).add j) = some u := fun b off m ys hm h j u hj => by
    obtain ⟨b', off', e, hb, hc⟩ := h.row hm
    simp only [Option.some.injEq, Addr.mk.injEq, and_true] at e
    obtain ⟨rfl, rfl⟩ := e
    have hjl : j < m := by
      have := (List.getElem?_eq_some_iff.1 hj).1
      rw [List.length_map, h.len] at this
      exact this
    have h2 := hc j hjl
    rw [List.getElem?_map, List.getElem?_eq_getElem (by rw [h.len]; exact hjl)] at hj
    rw [List.getElem?_eq_getElem (by rw [h.len]; exact hjl)] at h2
    simp only [Option.map_some, Option.some.injEq] at hj
    rw [Option.getD_some] at h2
    have e : (⟨b, off, none⟩ : Addr).add j = ⟨b, off + j, none⟩ := by unfold Addr.add; split <;> simp_all
    rw [e, ← hj]; exact h2
  rw [List.map_append]
  exact run_append_arg_grows w 22 ty 5 i0 (.int .u8 0) 1 1 Tryz.underlying22 hi hz0 hz1 hz2 rfl (by decide) ⟨g, 0, none⟩ n n (xs.map (Value.int .u8)) (by rw [List.length_map, hr.len]; omega) (hcell g 0 n xs hn hr) ⟨b, off, none⟩ m c (ys.map (Value.int .u8)) (by rw [List.length_map, hs.len]; omega) (hcell b off m ys hm hs) (by omega) (by unfold maxLen; omega) (by omega)
set_option maxRecDepth 100000 in
set_option maxHeartbeats 4000000 in
theorem putSol_any (x y : Int) (bs cs : List Int) (w : World) (hx : 0 ≤ x ∧ x ≤ 255) (hy : 0 ≤ y ∧ y ≤ 18446744073709551615) (hl : bs.length = 32) (hb : ∀ u ∈ bs, 0 ≤ u ∧ u ≤ 255) (hl2 : cs.length = 32) (hb2 : ∀ u ∈ cs, 0 ≤ u ∧ u ≤ 255) :
    Calls Tryz.prog 27 #[.agg (puzP x y bs).toArray, u8V cs] w fun e w' => ∃ g, w.heap.size ≤ g ∧ e = .returned (.slice (some ⟨g, 0, none⟩) 73 73) ∧ Rd w' .u8 (some ⟨g, 0, none⟩) 73 ([x] ++ be y 8 ++ bs ++ cs) ∧ Below w.heap.size w w' := by
  obtain ⟨S, hS⟩ : ∃ S, w.heap.size = S := ⟨_, rfl⟩
  have HS := Lib.hid hS
  have hp := fun w1 => putPuz_any x y bs w1 hx hy hl hb
  have hlp : (puzP x y bs).length = 34 := by simp [puzP, hl]
  have hsz : (Tryz.prog.info? 29).map (·.size) = some (puzP x y bs).length := by rw [hlp]; exact size_puz
  have hby : ∀ u ∈ [x] ++ be y 8 ++ bs ++ cs, 0 ≤ u ∧ u ≤ 255 := fun u hu => by
    rcases List.mem_append.1 hu with h | h
    · rcases List.mem_append.1 h with h | h
      · rcases List.mem_append.1 h with h | h
        · simp at h; rw [h]; exact hx
        · exact be_byte 8 y u h
      · exact hb u h
    · exact hb2 u h
  generalize puzP x y bs = X at hp hsz ⊢
  generalize [x] ++ be y 8 ++ bs = B at hp hby ⊢
  unfold u8V
  obtain ⟨Y, hY⟩ : ∃ Y, cs.map (Value.int .u8) = Y := ⟨_, rfl⟩
  rw [hY]
  have HY := Lib.hid hY
  have HP := Lib.hid hp
  have HSZ := Lib.hid hsz
  have HU := Lib.hid Tryz.underlying29
  have HL2 := Lib.hid hl2
  have HB2 := Lib.hid hb2
  have HBY := Lib.hid hby
  clear hS hp hlp hsz hY hx hy hl hb hl2 hb2 hby
  go_enter Tryz.func27, Tryz.ntmps27
  go_upto_region 0 with fail
  refine wp_region_lit ?_
  refine wpList_boxT (o := ⟨some 2, .box 29 _, _, _, _, _⟩) rfl 29 _ rfl X rfl ?_; intro w1 HK1 HB1
  rw [HS.out] at HK1 ⊢
  obtain ⟨T, hT⟩ : ∃ T, w1.heap.size = T := ⟨_, rfl⟩
  have HT := Lib.hid hT
  clear hT
  refine wpList_boxT (o := ⟨some 3, .box 27 _, _, _, _, _⟩) rfl 27 _ rfl Y rfl ?_; intro w2 HK2 HBB2
  rw [HT.out] at HK2 ⊢
  have HKS : Hid (Blk w2 S 29 X) := Lib.hid (HK1.out.keep (Keeps.of_below (M := fun _ => False) HBB2.out) (fun h => h))
  have HB2w := Lib.hid (HB1.out.trans (HBB2.out.mono HB1.out.size))
  have HB2d := Lib.hid (show Below w.heap.size w w2.drew from ⟨HB2w.out.os, HB2w.out.tape, HB2w.out.output, HB2w.out.size, HB2w.out.block⟩)
  have HR2 : Hid (Rd w2.drew .u8 (some ⟨T, 0, none⟩) 32 cs) := Lib.hid (rd_of_blk (by rw [HY.out]; exact HK2.out.drew) HB2.out HL2.out (by omega))
  have HSL := Lib.hid (slice_sum T)
  have a0 : w2.rangeAt S 0 X := HKS.out.range
  go_upto_region 1 with fail
  refine wp_region_noPanic ?_
  refine wp_region_held_drew (S := (fun w' => w'.rangeAt S 0 X)) (by kernel_rfl) ?_ (fun hHeld => ?_)
  · ((try dsimp only) <;> (first | assumption | (go_keep; done)))
  refine wpAnyH_take (i := 0) (oi := ⟨some 5, _, _, _, _, _⟩) (v := .agg X.toArray) rfl (by kernel_rfl) (by kernel_rfl) (by kernel_rfl) (fun _ _ _ h => False.elim h) ?_ (by assumption) ?_
  · refine yieldsIf_load_mid ?_ 29 _ rfl S 0 rfl X _ ?_ HU.out rfl HSZ.out
    · rfl
    · (intro w hSw; (try dsimp only at hSw); go_split_ands; assumption)
  (try simp only [Act.put, List.setIfInBounds_toArray, List.set_cons_zero, List.set_cons_succ])
  refine wpAnyH_take (i := 2) (oi := ⟨some 7, _, _, _, _, _⟩) (v := .slice (some ⟨T, 0, none⟩) 32 32) rfl (by kernel_rfl) (by kernel_rfl) (by kernel_rfl) (fun _ _ _ h => False.elim h) ?_ (by assumption) ?_
  · exact yieldsIf_sliceA (by rfl) 27 _ _ _ _ rfl _ (fun W => by simpa [Act.eval, Act.put] using HSL.out W)
  (try simp only [Act.put, List.setIfInBounds_toArray, List.set_cons_zero, List.set_cons_succ])
  refine wpAnyH_ready (rs := [1]) (by kernel_rfl) (by simp) ?_
  refine AllReadyH.cons (o := ⟨some 6, _, _, _, _, _⟩) rfl (fun K hK => ?_) AllReadyH.nil
  go_simp
  (refine (HP.out _).mono ?_; rintro e w3 ⟨g3, hg3, rfl, hr3, hB3⟩; have a1 : w3.rangeAt S 0 X := (HKS.out.drew.keep (Keeps.of_below (M := fun _ => False) hB3) (fun h => h)).range; have HS3 := Lib.hid (show Blk w3 S 29 X from HKS.out.drew.keep (Keeps.of_below (M := fun _ => False) hB3) (fun h => h)); have HB3 := Lib.hid (HB2d.out.trans (hB3.mono HB2d.out.size)); obtain ⟨v4, w4, q1, q2, q3⟩ := run_append_full (w := w3) 22 g3 41 B T 0 32 32 cs hr3 (HR2.out.below hB3) (by omega) (by omega) (by omega); have HQ1 := Lib.hid q1; have HQ2 := Lib.hid q2; have HQ3 := Lib.hid q3; have HB4 := Lib.hid (show Below w.heap.size w w4 from HB3.out.trans ⟨q3.os, q3.tape, q3.output, q3.size, fun i hi => q3.block i (Nat.lt_of_lt_of_le hi HB3.out.size) (by simp)⟩); have a2 : w4.rangeAt S 0 X := (HS3.out.keep (M := fun _ => False) ⟨q3.os, q3.tape, q3.output, q3.size, fun i hi _ => q3.block i hi (by simp)⟩ (fun h => h)).range; clear q1 q2 q3 hr3 hB3 hg3)
  (try go_wp2_with fail)
  refine hK.out _ _ ?_ (fun hHeld => ?_)
  · ((try dsimp only) <;> (first | assumption | (go_keep; done)))
  clear hK K
  (try simp only [Act.put, List.setIfInBounds_toArray, List.set_cons_zero, List.set_cons_succ])
  refine wpAnyH_ready (rs := [3]) (by kernel_rfl) (by simp) ?_
  refine AllReadyH.cons (o := ⟨some 8, _, _, _, _, _⟩) rfl (fun K hK => ?_) AllReadyH.nil
  (refine step_value (v := v4) (w' := w4) rfl (exec_appendB rfl (by simp [Act.eval, Act.put]) (by simp [Act.eval, Act.put]) HQ1.out) ?_; have HQ2' := HQ2; obtain ⟨A4, c4, rfl, hc4, -, hA4⟩ := own_slice HQ2'.out; obtain ⟨g4, rfl, hg4b, hg4c, -⟩ := hA4 (by omega); have HG4 := Lib.hid (Nat.le_trans HB3.out.size hg4b); clear hg4b hg4c hA4)
  refine hK.out _ _ ?_ (fun hHeld => ?_)
  · ((try dsimp only) <;> (first | assumption | (go_keep; done)))
  clear hK K
  (try simp only [Act.put, List.setIfInBounds_toArray, List.set_cons_zero, List.set_cons_succ])
  refine wpAnyH_ready (rs := [4]) (by kernel_rfl) (by simp) ?_
  refine AllReadyH.cons (o := ⟨some 9, _, _, _, _, _⟩) rfl (fun K hK => ?_) AllReadyH.nil
  go_simp
  (refine (clip_all (some ⟨g4, 0, none⟩) (41 + 32) c4 w4 hc4).mono ?_; rintro e w5 ⟨rfl, rfl⟩)
  (try go_wp2_with fail)
  refine hK.out _ _ ?_ (fun hHeld => ?_)
  · ((try dsimp only) <;> (first | assumption | (go_keep; done)))
  clear hK K
  (try simp only [Act.put, List.setIfInBounds_toArray, List.set_cons_zero, List.set_cons_succ])
  refine wpAnyH_take (i := 5) (oi := ⟨some 4, _, _, _, _, _⟩) (v := ?_) rfl (by kernel_rfl) (by kernel_rfl) (by kernel_rfl) (fun _ _ _ h => False.elim h) (Or.inl ⟨by rfl, ?_⟩) (by assumption) ?_
  rotate_left
  · intro w hSw
    (try dsimp only at hSw)
    go_simp
    all_goals with_reducible rfl
  (try simp only [Act.put, List.setIfInBounds_toArray, List.set_cons_zero, List.set_cons_succ])
  refine wpAnyH_done (by kernel_rfl) ?_ _
  refine NoPanic.normal ?_
  go_wp2_with fail
  go_ret
  exact ⟨g4, HG4.out, rfl, rd_own HQ2.out HBY.out (by omega), HB4.out⟩
end Go.Proofs.YtgecfcdafbedaaaGreat
