/- The law SpotsStay: the walk. -/
import Derived.Test.YtanpbimamdjdfaaSLStay1
import Derived.Deep.RegionHeld3
namespace Go.Proofs.Ytanpbimamdjdfaa
open Go.RowKit Go.ChangeShapes Go.WideShapes
set_option linter.unusedSimpArgs false
set_option linter.unusedVariables false

section
variable {P : Program} {ops : Array Oper} {rest : List Oper} {o : Oper} {a : Act} {w : World} {Q : Exit → Act → World → Prop}
theorem wpList_wantS {w' : World} {v : Value} (hw : Region.wanted o (yielded ops a.tmps) = true) (hr : (execOp a.eval o).run P w = .ok (.value v) w') (h : wpList P ops Q rest (a.put o.dst v) w') : wpList P ops Q (o :: rest) a w := by
  rw [wpList, if_pos hw]
  exact .inl (by unfold Oper.wp; rw [hr]; exact h)
theorem wpList_read {v : Value} (hw : Region.wanted o (yielded ops a.tmps) = true) (hr : (execOp a.eval o).run P w = .ok (.value v) w) (h : wpList P ops Q rest (a.put o.dst v) w) : wpList P ops Q (o :: rest) a w := wpList_wantS hw hr h
theorem exec_loadS {ty : TypeId} {x : Operand} (ho : o.op = .load ty x) (b off : Nat) (hx : a.eval x = .pointer (some ⟨b, off, none⟩)) (cs : List Value) (d : TypeDesc) (hc : w.rangeAt b off cs)
    (hu : P.underlying ty = some d) (hd : d.isRow = true) (hi : (P.info? ty).map (·.size) = some cs.length) : (execOp a.eval o).run P w = .ok (.value (.agg cs.toArray)) w := by
  unfold execOp
  simp only [ho, hx, Instr.loadAt, Instr.sureAddr, Sem.run_bind, Sem.run_pure, Result.andThen_ok, run_loadVar_mid w b off ty cs d hc hu hd hi]
end
theorem SetAt.drew {w : World} {p g : Nat} {l : List Spt} {cr : Int} (h : SetAt w p g l cr) : SetAt w.drew p g l cr :=
  ⟨h.set.drew, h.row.drew, fun s hs q hq => ⟨(h.sum s hs q hq).1.drew, (h.sum s hs q hq).2⟩, h.len, h.ats, h.sts, h.cred⟩
/-- The parts of the k-th act, in every later world. -/
theorem acts_at {w : World} {A : Option Addr} {n : Nat} {xs : List Sa} (h : SActs w A n xs) {k : Nat} (hk : k < n) : ∃ b off x, A = some ⟨b, off, none⟩ ∧ b < w.heap.size ∧ xs[k]? = some x ∧ OkSa w x ∧
    ∀ W, Below w.heap.size w W → W.cell? ⟨b, off + k * 36, none⟩ = some (.int .u8 x.kind) ∧ W.cell? ⟨b, off + k * 36 + 1, none⟩ = some (.slice x.A x.n x.c) ∧ W.cell? ⟨b, off + k * 36 + 2, none⟩ = some (.int .u32 x.spot) ∧ W.rangeAt b (off + k * 36 + 3) (x.sum.map (Value.int .u8)) ∧ W.cell? ⟨b, off + k * 36 + 35, none⟩ = some (.int .i64 x.bytes) := by
  obtain ⟨b, off, e, hb, hr⟩ := h.row (by omega)
  obtain ⟨x, hx⟩ : ∃ x, xs[k]? = some x := ⟨_, List.getElem?_eq_getElem (by rw [h.len]; exact hk)⟩
  refine ⟨b, off, x, e, hb, hx, h.ok x (List.mem_of_getElem? hx), fun W hW => ?_⟩
  exact sa_at (fun i v hv => (hW.cell (p := ⟨b, off + k * 36 + i, none⟩) hb).trans (hr k x hx i v hv)) (h.ok x (List.mem_of_getElem? hx)).sum
set_option maxRecDepth 100000 in
set_option maxHeartbeats 16000000 in
theorem stay_at (f : Int) (A1 : Option Addr) (n1 c1 : Nat) (acts : List Sa) (A2 : Option Addr) (n c : Nat) (xs : List Int) (w : World) (hf : 0 ≤ f ∧ f ≤ 4294967295) (h1 : SActs w A1 n1 acts) (hn1 : n1 ≤ maxLen) (hr : Rd w .u32 A2 n xs) (hnc : n ≤ c) :
    Calls Try.prog 6 #[.int .u32 f, .slice A1 n1 c1, .slice A2 n c] w fun e w' => e = .returned (.bool true) ∧ Below w.heap.size w w' := by
  have hbig := hr.big
  have HA1 := Lib.hid h1
  have HR := Lib.hid hr
  have HNL := Lib.hid hn1
  have hn1' : n1 ≤ 9223372036854775807 := hn1
  clear h1 hr hn1
  by_cases hz : f = 0
  · subst hz
    go_enter Try.func6, Try.ntmps6
    go_wp2_with fail
    refine (new_zero w).mono ?_; rintro e w' ⟨rfl, rfl⟩
    go_wp2_with fail
    refine (aliveS_true w).mono ?_; rintro e w2 ⟨rfl, hB⟩
    have HB2 := Lib.hid hB
    clear hB
    go_wp2_with fail
    refine (aliveS_true w2).mono ?_; rintro e w3 ⟨rfl, hB⟩
    have HBO := Lib.hid (HB2.out.trans (hB.mono HB2.out.size))
    clear hB
    go_wp2_with fail
    go_ret
    exact ⟨rfl, HBO.out⟩
  have HNEW := Lib.hid (new_any f w (by omega))
  clear hf hz
  go_enter Try.func6, Try.ntmps6
  go_wp2_with fail
  refine HNEW.out.mono ?_; rintro e w1 ⟨p, g, rfl, hp, hg, hS, hB⟩
  have HP := Lib.hid hp
  have HG0 := Lib.hid hg
  have HS1 := Lib.hid hS
  have HB1 := Lib.hid hB
  clear hp hg hS hB
  go_wp2_with fail
  refine (aliveS_true w1).mono ?_; rintro e w2 ⟨rfl, hB⟩
  have HS2 := Lib.hid (HS1.out.below hB)
  have HB2 := Lib.hid (HB1.out.trans (hB.mono HB1.out.size))
  have HGR := Lib.hid (great_any A1 n1 c1 acts w2 (HA1.out.below HB2.out) HNL.out)
  clear hB HS1 HB1
  go_wp2_with fail
  refine HGR.out.mono ?_; rintro e w' ⟨q, rfl, rfl⟩
  cases q with
  | true =>
    go_wp2_with fail
    refine (aliveS_true w2).mono ?_; rintro e w3 ⟨rfl, hB⟩
    have HBO := Lib.hid (HB2.out.trans (hB.mono HB2.out.size))
    clear hB
    go_wp2_with fail
    go_ret
    exact ⟨rfl, HBO.out⟩
  | false =>
    by_cases hb : 20 < n
    · have hbi : (20 : Int) < (n : Int) := by omega
      clear hb
      go_wp2_with fail
      refine (aliveS_true w2).mono ?_; rintro e w3 ⟨rfl, hB⟩
      have HBO := Lib.hid (HB2.out.trans (hB.mono HB2.out.size))
      clear hB
      go_wp2_with fail
      go_ret
      exact ⟨rfl, HBO.out⟩
    have hbi : (n : Int) ≤ 20 := by omega
    have hn20 : n ≤ 20 := by omega
    clear hb HGR HNEW
    have HU := Lib.hid Try.underlying40
    go_wp2_with fail
    go_loopw [9] (fun i wr => ∃ (k g : Nat) (l : List Spt) (cr : Int), k ≤ n1 ∧ i = .int .i64 k ∧ w.heap.size ≤ g ∧ SetAt wr p g l cr ∧ Below w.heap.size w wr) (fun i _ => n1 - (intOf i).toNat)
    case atStart => exact ⟨0, g, _, 0, Nat.zero_le _, rfl, HG0.out, HS2.out, HB2.out⟩
    case round =>
      clear HS2 HG0
      obtain ⟨k, g', l, cr, hk, rfl, hg, hS, hB⟩ := hrel
      by_cases hlt : k < n1
      · obtain ⟨b, off, x, rfl, hbl, hx, hok, hpart⟩ := acts_at HA1.out hlt
        have hkind := hok.kind
        have HSL := Lib.hid hok.sum
        have HCH := Lib.hid (change_any hS x.A x.n x.c x.xs (hok.rd.below hB) hok.le (by have := hok.le; have := hok.cap; omega))
        obtain ⟨c0, c1', c2, c3, -⟩ := hpart wr hB
        have HPART := Lib.hid hpart
        obtain ⟨kind, LA, ln, lc, lx, spot, sum, bytes⟩ := x
        simp only at hkind HSL HCH c0 c1' c2 c3 HPART
        have HSZ : Hid ((Try.prog.info? 40).map (·.size) = some (sum.map (Value.int .u8)).length) := Lib.hid (by rw [List.length_map, HSL.out]; kernel_rfl)
        have HG := Lib.hid hg
        have HB := Lib.hid hB
        have HS := Lib.hid hS
        have i0 : (0 : Int) ≤ (k : Int) := by omega
        have i1 : (k : Int) < (n1 : Int) := by omega
        obtain ⟨k0, k1⟩ := hkind
        clear hbl hx hok hpart hg hS hB
        by_cases h2 : kind % 8 < 2
        · have h2' : kind.tmod 8 < 2 := by rw [Int.tmod_eq_emod_of_nonneg k0]; exact h2
          go_wp2_with fail
          refine HCH.out.mono ?_; rintro e w4 (⟨hno, rfl, hS4, hB4⟩ | ⟨hok, A', G, rfl, hl, hG4, hS4, hK4⟩)
          · have HBN := Lib.hid (HB.out.trans (hB4.mono HB.out.size))
            have HSN := Lib.hid hS4
            clear HB HS hno hS4 hB4 HCH
            have HB := HBN
            have HS := HSN
            clear HBN HSN
            have HASK := Lib.hid (ask_any HS.out.drew spot sum HSL.out)
            have HB0d : Hid (Below w.heap.size w w4.drew) := Lib.hid HB.out.drew
            obtain ⟨-, -, d2, d3, -⟩ := HPART.out w4 HB.out
            go_upto_region 9 with fail
            clear c0 c1' c2 c3
            refine wp_region_noPanic ?_
            refine wp_region_held_drew (S := (fun w' => w'.cell? ⟨b, off + k * 36 + 2, none⟩ = some (.int .u32 spot) ∧ w'.rangeAt b (off + k * 36 + 3) (sum.map (Value.int .u8)))) (by kernel_rfl) ?_ (fun hHeld => ?_)
            · ((try dsimp only); refine ⟨?_, ?_⟩ <;> (first | assumption | (go_keep; done)))
            refine wpAnyH_take (i := 0) (oi := ⟨some 64, _, _, _, _, _⟩) (v := ?_) rfl (by kernel_rfl) (by kernel_rfl) (by kernel_rfl) (fun _ _ _ h => False.elim h) (Or.inl ⟨by rfl, ?_⟩) (by assumption) ?_
            rotate_left
            · intro w hSw
              (try dsimp only at hSw)
              go_simp
              all_goals with_reducible rfl
            (try simp only [Act.put, List.setIfInBounds_toArray, List.set_cons_zero, List.set_cons_succ])
            refine wpAnyH_take (i := 1) (oi := ⟨some 65, _, _, _, _, _⟩) (v := ?_) rfl (by kernel_rfl) (by kernel_rfl) (by kernel_rfl) (fun _ _ _ h => False.elim h) (Or.inl ⟨by rfl, ?_⟩) (by assumption) ?_
            rotate_left
            · intro w hSw
              (try dsimp only at hSw)
              go_simp
              all_goals with_reducible rfl
            (try simp only [Act.put, List.setIfInBounds_toArray, List.set_cons_zero, List.set_cons_succ])
            refine wpAnyH_take (i := 2) (oi := ⟨some 66, _, _, _, _, _⟩) (v := ?_) rfl (by kernel_rfl) (by kernel_rfl) (by kernel_rfl) (fun _ _ _ h => False.elim h) (Or.inl ⟨by rfl, ?_⟩) (by assumption) ?_
            rotate_left
            · intro w hSw
              (try dsimp only at hSw)
              go_simp
              all_goals with_reducible rfl
            (try simp only [Act.put, List.setIfInBounds_toArray, List.set_cons_zero, List.set_cons_succ])
            refine wpAnyH_take (i := 3) (oi := ⟨some 67, _, _, _, _, _⟩) (v := ?_) rfl (by kernel_rfl) (by kernel_rfl) (by kernel_rfl) (fun _ _ _ h => False.elim h) (Or.inl ⟨by rfl, ?_⟩) (by assumption) ?_
            rotate_left
            · intro w hSw
              (try dsimp only at hSw)
              go_simp
              all_goals with_reducible rfl
            (try simp only [Act.put, List.setIfInBounds_toArray, List.set_cons_zero, List.set_cons_succ])
            refine wpAnyH_take (i := 4) (oi := ⟨some 68, _, _, _, _, _⟩) (v := ?_) rfl (by kernel_rfl) (by kernel_rfl) (by kernel_rfl) (fun _ _ _ h => False.elim h) (Or.inl ⟨by rfl, ?_⟩) (by assumption) ?_
            rotate_left
            · intro w hSw
              (try dsimp only at hSw)
              go_simp
              all_goals with_reducible rfl
            (try simp only [Act.put, List.setIfInBounds_toArray, List.set_cons_zero, List.set_cons_succ])
            refine wpAnyH_take (i := 5) (oi := ⟨some 69, _, _, _, _, _⟩) (v := ?_) rfl (by kernel_rfl) (by kernel_rfl) (by kernel_rfl) (fun _ _ _ h => False.elim h) (Or.inl ⟨by rfl, ?_⟩) (by assumption) ?_
            rotate_left
            · intro w hSw
              (try dsimp only at hSw)
              go_simp
              all_goals with_reducible rfl
            (try simp only [Act.put, List.setIfInBounds_toArray, List.set_cons_zero, List.set_cons_succ])
            refine wpAnyH_take (i := 6) (oi := ⟨some 70, _, _, _, _, _⟩) (v := ?_) rfl (by kernel_rfl) (by kernel_rfl) (by kernel_rfl) (fun _ _ _ h => False.elim h) (Or.inl ⟨by rfl, ?_⟩) (by assumption) ?_
            rotate_left
            · intro w hSw
              (try dsimp only at hSw)
              go_simp
              all_goals with_reducible rfl
            (try simp only [Act.put, List.setIfInBounds_toArray, List.set_cons_zero, List.set_cons_succ])
            refine wpAnyH_take (i := 7) (oi := ⟨some 71, _, _, _, _, _⟩) (v := ?_) rfl (by kernel_rfl) (by kernel_rfl) (by kernel_rfl) (fun _ _ _ h => False.elim h) (Or.inl ⟨by rfl, ?_⟩) (by assumption) ?_
            rotate_left
            · intro w hSw
              (try dsimp only at hSw)
              go_simp
              all_goals with_reducible rfl
            (try simp only [Act.put, List.setIfInBounds_toArray, List.set_cons_zero, List.set_cons_succ])
            refine wpAnyH_take (i := 8) (oi := ⟨some 72, _, _, _, _, _⟩) (v := ?_) rfl (by kernel_rfl) (by kernel_rfl) (by kernel_rfl) (fun _ _ _ h => False.elim h) (Or.inl ⟨by rfl, ?_⟩) (by assumption) ?_
            rotate_left
            · intro w hSw
              (try dsimp only at hSw)
              go_simp
              all_goals with_reducible rfl
            (try simp only [Act.put, List.setIfInBounds_toArray, List.set_cons_zero, List.set_cons_succ])
            refine wpAnyH_take (i := 9) (oi := ⟨some 73, _, _, _, _, _⟩) (v := ?_) rfl (by kernel_rfl) (by kernel_rfl) (by kernel_rfl) (fun _ _ _ h => False.elim h) (Or.inl ⟨by rfl, ?_⟩) (by assumption) ?_
            rotate_left
            · intro w hSw
              (try dsimp only at hSw)
              go_simp
              all_goals with_reducible rfl
            (try simp only [Act.put, List.setIfInBounds_toArray, List.set_cons_zero, List.set_cons_succ])
            refine wpAnyH_take (i := 10) (oi := ⟨some 74, _, _, _, _, _⟩) (v := .agg (sum.map (Value.int .u8)).toArray) rfl (by kernel_rfl) (by kernel_rfl) (by kernel_rfl) (fun _ _ _ h => False.elim h) ?_ (by assumption) ?_
            · refine yieldsIf_load_mid ?_ 40 _ rfl b (off + k * 36 + 3) rfl (sum.map (Value.int .u8)) _ ?_ HU.out rfl HSZ.out
              · rfl
              · (intro w hSw; (try dsimp only at hSw); go_split_ands; assumption)
            (try simp only [Act.put, List.setIfInBounds_toArray, List.set_cons_zero, List.set_cons_succ])
            refine wpAnyH_ready (rs := [11]) (by kernel_rfl) (by simp) ?_
            refine AllReadyH.cons (o := ⟨some 75, _, _, _, _, _⟩) rfl (fun K hK => ?_) AllReadyH.nil
            go_simp
            (refine HASK.out.mono ?_; rintro e w5 ⟨X, hX, rfl, hS5, hK5⟩; have HB5 := Lib.hid (below_keeps HB0d.out hK5 (Nat.le_refl _) (fun i hi => by rw [hi]; exact HG.out)); have HS5 := Lib.hid hS5; obtain ⟨-, -, f2, f3, -⟩ := HPART.out w5 HB5.out; clear hX hS5 hK5)
            (try go_wp2_with fail)
            refine hK.out _ _ ?_ (fun hHeld => ?_)
            · ((try dsimp only); refine ⟨?_, ?_⟩ <;> (first | assumption | (go_keep; done)))
            clear hK K
            (try simp only [Act.put, List.setIfInBounds_toArray, List.set_cons_zero, List.set_cons_succ])
            refine wpAnyH_done (by kernel_rfl) ?_ _
            refine NoPanic.normal ?_
            have HBACK := Lib.hid (back_any HS5.out sum HSL.out)
            go_upto_region 10 with fail
            refine wp_region_lit ?_
            refine wpList_read (o := ⟨some 76, _, _, _, _, _⟩) (v := ?_) (by rfl) ?_ ?_
            rotate_left
            · go_simp
              all_goals with_reducible rfl
            (try simp only [Act.put, List.setIfInBounds_toArray, List.set_cons_zero, List.set_cons_succ])
            refine wpList_read (o := ⟨some 77, _, _, _, _, _⟩) (v := ?_) (by rfl) ?_ ?_
            rotate_left
            · go_simp
              all_goals with_reducible rfl
            (try simp only [Act.put, List.setIfInBounds_toArray, List.set_cons_zero, List.set_cons_succ])
            refine wpList_read (o := ⟨some 78, _, _, _, _, _⟩) (v := ?_) (by rfl) ?_ ?_
            rotate_left
            · go_simp
              all_goals with_reducible rfl
            (try simp only [Act.put, List.setIfInBounds_toArray, List.set_cons_zero, List.set_cons_succ])
            refine wpList_read (o := ⟨some 79, _, _, _, _, _⟩) (v := ?_) (by rfl) ?_ ?_
            rotate_left
            · go_simp
              all_goals with_reducible rfl
            (try simp only [Act.put, List.setIfInBounds_toArray, List.set_cons_zero, List.set_cons_succ])
            refine wpList_read (o := ⟨some 80, _, _, _, _, _⟩) (v := ?_) (by rfl) ?_ ?_
            rotate_left
            · go_simp
              all_goals with_reducible rfl
            (try simp only [Act.put, List.setIfInBounds_toArray, List.set_cons_zero, List.set_cons_succ])
            refine wpList_wantS (o := ⟨some 81, .load 40 _, _, _, _, _⟩) (v := .agg (sum.map (Value.int .u8)).toArray) (by rfl) (exec_loadS rfl b (off + k * 36 + 3) rfl (sum.map (Value.int .u8)) _ f3 HU.out rfl HSZ.out) ?_
            (try simp only [Act.put, List.setIfInBounds_toArray, List.set_cons_zero, List.set_cons_succ])
            go_wp2_with fail
            refine HBACK.out.mono ?_; rintro e w6 ⟨rfl, hS6, hK6⟩
            have HB6 := Lib.hid (below_keeps HB5.out hK6 (Nat.le_refl _) (fun i hi => by rw [hi]; exact HG.out))
            have HS6 := Lib.hid hS6
            clear hS6 hK6 d2 d3 f2 f3
            go_wp2_with fail
            go_roundw
            case rel => exact ⟨k + 1, _, _, _, by omega, by go_num, HG.out, HS6.out, HB6.out⟩
            case measure => simp [intOf]; omega
          · have HBN := Lib.hid (below_keeps HB.out hK4 (Nat.le_refl _) (fun i hi => by rw [hi]; exact HP.out))
            have HSN := Lib.hid hS4
            have HGN := Lib.hid (Nat.le_trans HB.out.size hG4)
            obtain ⟨LN, hLN⟩ : ∃ L, changeL l lx = L := ⟨_, rfl⟩
            rw [hLN] at HSN
            obtain ⟨mo, hmo⟩ : ∃ m, (othersL l lx).length = m := ⟨_, rfl⟩
            rw [hmo]
            clear HB HS HG hok hl hG4 hS4 hK4 HCH hLN hmo
            have HB := HBN
            have HS := HSN
            have HG := HGN
            clear HBN HSN HGN
            have HASK := Lib.hid (ask_any HS.out.drew spot sum HSL.out)
            have HB0d : Hid (Below w.heap.size w w4.drew) := Lib.hid HB.out.drew
            obtain ⟨-, -, d2, d3, -⟩ := HPART.out w4 HB.out
            go_upto_region 9 with fail
            clear c0 c1' c2 c3
            refine wp_region_noPanic ?_
            refine wp_region_held_drew (S := (fun w' => w'.cell? ⟨b, off + k * 36 + 2, none⟩ = some (.int .u32 spot) ∧ w'.rangeAt b (off + k * 36 + 3) (sum.map (Value.int .u8)))) (by kernel_rfl) ?_ (fun hHeld => ?_)
            · ((try dsimp only); refine ⟨?_, ?_⟩ <;> (first | assumption | (go_keep; done)))
            refine wpAnyH_take (i := 0) (oi := ⟨some 64, _, _, _, _, _⟩) (v := ?_) rfl (by kernel_rfl) (by kernel_rfl) (by kernel_rfl) (fun _ _ _ h => False.elim h) (Or.inl ⟨by rfl, ?_⟩) (by assumption) ?_
            rotate_left
            · intro w hSw
              (try dsimp only at hSw)
              go_simp
              all_goals with_reducible rfl
            (try simp only [Act.put, List.setIfInBounds_toArray, List.set_cons_zero, List.set_cons_succ])
            refine wpAnyH_take (i := 1) (oi := ⟨some 65, _, _, _, _, _⟩) (v := ?_) rfl (by kernel_rfl) (by kernel_rfl) (by kernel_rfl) (fun _ _ _ h => False.elim h) (Or.inl ⟨by rfl, ?_⟩) (by assumption) ?_
            rotate_left
            · intro w hSw
              (try dsimp only at hSw)
              go_simp
              all_goals with_reducible rfl
            (try simp only [Act.put, List.setIfInBounds_toArray, List.set_cons_zero, List.set_cons_succ])
            refine wpAnyH_take (i := 2) (oi := ⟨some 66, _, _, _, _, _⟩) (v := ?_) rfl (by kernel_rfl) (by kernel_rfl) (by kernel_rfl) (fun _ _ _ h => False.elim h) (Or.inl ⟨by rfl, ?_⟩) (by assumption) ?_
            rotate_left
            · intro w hSw
              (try dsimp only at hSw)
              go_simp
              all_goals with_reducible rfl
            (try simp only [Act.put, List.setIfInBounds_toArray, List.set_cons_zero, List.set_cons_succ])
            refine wpAnyH_take (i := 3) (oi := ⟨some 67, _, _, _, _, _⟩) (v := ?_) rfl (by kernel_rfl) (by kernel_rfl) (by kernel_rfl) (fun _ _ _ h => False.elim h) (Or.inl ⟨by rfl, ?_⟩) (by assumption) ?_
            rotate_left
            · intro w hSw
              (try dsimp only at hSw)
              go_simp
              all_goals with_reducible rfl
            (try simp only [Act.put, List.setIfInBounds_toArray, List.set_cons_zero, List.set_cons_succ])
            refine wpAnyH_take (i := 4) (oi := ⟨some 68, _, _, _, _, _⟩) (v := ?_) rfl (by kernel_rfl) (by kernel_rfl) (by kernel_rfl) (fun _ _ _ h => False.elim h) (Or.inl ⟨by rfl, ?_⟩) (by assumption) ?_
            rotate_left
            · intro w hSw
              (try dsimp only at hSw)
              go_simp
              all_goals with_reducible rfl
            (try simp only [Act.put, List.setIfInBounds_toArray, List.set_cons_zero, List.set_cons_succ])
            refine wpAnyH_take (i := 5) (oi := ⟨some 69, _, _, _, _, _⟩) (v := ?_) rfl (by kernel_rfl) (by kernel_rfl) (by kernel_rfl) (fun _ _ _ h => False.elim h) (Or.inl ⟨by rfl, ?_⟩) (by assumption) ?_
            rotate_left
            · intro w hSw
              (try dsimp only at hSw)
              go_simp
              all_goals with_reducible rfl
            (try simp only [Act.put, List.setIfInBounds_toArray, List.set_cons_zero, List.set_cons_succ])
            refine wpAnyH_take (i := 6) (oi := ⟨some 70, _, _, _, _, _⟩) (v := ?_) rfl (by kernel_rfl) (by kernel_rfl) (by kernel_rfl) (fun _ _ _ h => False.elim h) (Or.inl ⟨by rfl, ?_⟩) (by assumption) ?_
            rotate_left
            · intro w hSw
              (try dsimp only at hSw)
              go_simp
              all_goals with_reducible rfl
            (try simp only [Act.put, List.setIfInBounds_toArray, List.set_cons_zero, List.set_cons_succ])
            refine wpAnyH_take (i := 7) (oi := ⟨some 71, _, _, _, _, _⟩) (v := ?_) rfl (by kernel_rfl) (by kernel_rfl) (by kernel_rfl) (fun _ _ _ h => False.elim h) (Or.inl ⟨by rfl, ?_⟩) (by assumption) ?_
            rotate_left
            · intro w hSw
              (try dsimp only at hSw)
              go_simp
              all_goals with_reducible rfl
            (try simp only [Act.put, List.setIfInBounds_toArray, List.set_cons_zero, List.set_cons_succ])
            refine wpAnyH_take (i := 8) (oi := ⟨some 72, _, _, _, _, _⟩) (v := ?_) rfl (by kernel_rfl) (by kernel_rfl) (by kernel_rfl) (fun _ _ _ h => False.elim h) (Or.inl ⟨by rfl, ?_⟩) (by assumption) ?_
            rotate_left
            · intro w hSw
              (try dsimp only at hSw)
              go_simp
              all_goals with_reducible rfl
            (try simp only [Act.put, List.setIfInBounds_toArray, List.set_cons_zero, List.set_cons_succ])
            refine wpAnyH_take (i := 9) (oi := ⟨some 73, _, _, _, _, _⟩) (v := ?_) rfl (by kernel_rfl) (by kernel_rfl) (by kernel_rfl) (fun _ _ _ h => False.elim h) (Or.inl ⟨by rfl, ?_⟩) (by assumption) ?_
            rotate_left
            · intro w hSw
              (try dsimp only at hSw)
              go_simp
              all_goals with_reducible rfl
            (try simp only [Act.put, List.setIfInBounds_toArray, List.set_cons_zero, List.set_cons_succ])
            refine wpAnyH_take (i := 10) (oi := ⟨some 74, _, _, _, _, _⟩) (v := .agg (sum.map (Value.int .u8)).toArray) rfl (by kernel_rfl) (by kernel_rfl) (by kernel_rfl) (fun _ _ _ h => False.elim h) ?_ (by assumption) ?_
            · refine yieldsIf_load_mid ?_ 40 _ rfl b (off + k * 36 + 3) rfl (sum.map (Value.int .u8)) _ ?_ HU.out rfl HSZ.out
              · rfl
              · (intro w hSw; (try dsimp only at hSw); go_split_ands; assumption)
            (try simp only [Act.put, List.setIfInBounds_toArray, List.set_cons_zero, List.set_cons_succ])
            refine wpAnyH_ready (rs := [11]) (by kernel_rfl) (by simp) ?_
            refine AllReadyH.cons (o := ⟨some 75, _, _, _, _, _⟩) rfl (fun K hK => ?_) AllReadyH.nil
            go_simp
            (refine HASK.out.mono ?_; rintro e w5 ⟨X, hX, rfl, hS5, hK5⟩; have HB5 := Lib.hid (below_keeps HB0d.out hK5 (Nat.le_refl _) (fun i hi => by rw [hi]; exact HG.out)); have HS5 := Lib.hid hS5; obtain ⟨-, -, f2, f3, -⟩ := HPART.out w5 HB5.out; clear hX hS5 hK5)
            (try go_wp2_with fail)
            refine hK.out _ _ ?_ (fun hHeld => ?_)
            · ((try dsimp only); refine ⟨?_, ?_⟩ <;> (first | assumption | (go_keep; done)))
            clear hK K
            (try simp only [Act.put, List.setIfInBounds_toArray, List.set_cons_zero, List.set_cons_succ])
            refine wpAnyH_done (by kernel_rfl) ?_ _
            refine NoPanic.normal ?_
            have HBACK := Lib.hid (back_any HS5.out sum HSL.out)
            go_upto_region 10 with fail
            refine wp_region_lit ?_
            refine wpList_read (o := ⟨some 76, _, _, _, _, _⟩) (v := ?_) (by rfl) ?_ ?_
            rotate_left
            · go_simp
              all_goals with_reducible rfl
            (try simp only [Act.put, List.setIfInBounds_toArray, List.set_cons_zero, List.set_cons_succ])
            refine wpList_read (o := ⟨some 77, _, _, _, _, _⟩) (v := ?_) (by rfl) ?_ ?_
            rotate_left
            · go_simp
              all_goals with_reducible rfl
            (try simp only [Act.put, List.setIfInBounds_toArray, List.set_cons_zero, List.set_cons_succ])
            refine wpList_read (o := ⟨some 78, _, _, _, _, _⟩) (v := ?_) (by rfl) ?_ ?_
            rotate_left
            · go_simp
              all_goals with_reducible rfl
            (try simp only [Act.put, List.setIfInBounds_toArray, List.set_cons_zero, List.set_cons_succ])
            refine wpList_read (o := ⟨some 79, _, _, _, _, _⟩) (v := ?_) (by rfl) ?_ ?_
            rotate_left
            · go_simp
              all_goals with_reducible rfl
            (try simp only [Act.put, List.setIfInBounds_toArray, List.set_cons_zero, List.set_cons_succ])
            refine wpList_read (o := ⟨some 80, _, _, _, _, _⟩) (v := ?_) (by rfl) ?_ ?_
            rotate_left
            · go_simp
              all_goals with_reducible rfl
            (try simp only [Act.put, List.setIfInBounds_toArray, List.set_cons_zero, List.set_cons_succ])
            refine wpList_wantS (o := ⟨some 81, .load 40 _, _, _, _, _⟩) (v := .agg (sum.map (Value.int .u8)).toArray) (by rfl) (exec_loadS rfl b (off + k * 36 + 3) rfl (sum.map (Value.int .u8)) _ f3 HU.out rfl HSZ.out) ?_
            (try simp only [Act.put, List.setIfInBounds_toArray, List.set_cons_zero, List.set_cons_succ])
            go_wp2_with fail
            refine HBACK.out.mono ?_; rintro e w6 ⟨rfl, hS6, hK6⟩
            have HB6 := Lib.hid (below_keeps HB5.out hK6 (Nat.le_refl _) (fun i hi => by rw [hi]; exact HG.out))
            have HS6 := Lib.hid hS6
            clear hS6 hK6 d2 d3 f2 f3
            go_wp2_with fail
            go_roundw
            case rel => exact ⟨k + 1, _, _, _, by omega, by go_num, HG.out, HS6.out, HB6.out⟩
            case measure => simp [intOf]; omega
        · have h2' : (kind.tmod 8 < 2) = False := eq_false (by rw [Int.tmod_eq_emod_of_nonneg k0]; exact h2)
          have h2'' : (kind % 8 < 2) = False := eq_false h2
          clear h2
          clear HCH
          obtain ⟨w4, hw4⟩ : ∃ W, wr = W := ⟨_, rfl⟩
          subst hw4
          have HASK := Lib.hid (ask_any HS.out.drew spot sum HSL.out)
          have HB0d : Hid (Below w.heap.size w wr.drew) := Lib.hid HB.out.drew
          obtain ⟨-, -, d2, d3, -⟩ := HPART.out wr HB.out
          go_upto_region 9 with fail
          clear c0 c1' c2 c3
          refine wp_region_noPanic ?_
          refine wp_region_held_drew (S := (fun w' => w'.cell? ⟨b, off + k * 36 + 2, none⟩ = some (.int .u32 spot) ∧ w'.rangeAt b (off + k * 36 + 3) (sum.map (Value.int .u8)))) (by kernel_rfl) ?_ (fun hHeld => ?_)
          · ((try dsimp only); refine ⟨?_, ?_⟩ <;> (first | assumption | (go_keep; done)))
          refine wpAnyH_take (i := 0) (oi := ⟨some 64, _, _, _, _, _⟩) (v := ?_) rfl (by kernel_rfl) (by kernel_rfl) (by kernel_rfl) (fun _ _ _ h => False.elim h) (Or.inl ⟨by rfl, ?_⟩) (by assumption) ?_
          rotate_left
          · intro w hSw
            (try dsimp only at hSw)
            go_simp
            all_goals with_reducible rfl
          (try simp only [Act.put, List.setIfInBounds_toArray, List.set_cons_zero, List.set_cons_succ])
          refine wpAnyH_take (i := 1) (oi := ⟨some 65, _, _, _, _, _⟩) (v := ?_) rfl (by kernel_rfl) (by kernel_rfl) (by kernel_rfl) (fun _ _ _ h => False.elim h) (Or.inl ⟨by rfl, ?_⟩) (by assumption) ?_
          rotate_left
          · intro w hSw
            (try dsimp only at hSw)
            go_simp
            all_goals with_reducible rfl
          (try simp only [Act.put, List.setIfInBounds_toArray, List.set_cons_zero, List.set_cons_succ])
          refine wpAnyH_take (i := 2) (oi := ⟨some 66, _, _, _, _, _⟩) (v := ?_) rfl (by kernel_rfl) (by kernel_rfl) (by kernel_rfl) (fun _ _ _ h => False.elim h) (Or.inl ⟨by rfl, ?_⟩) (by assumption) ?_
          rotate_left
          · intro w hSw
            (try dsimp only at hSw)
            go_simp
            all_goals with_reducible rfl
          (try simp only [Act.put, List.setIfInBounds_toArray, List.set_cons_zero, List.set_cons_succ])
          refine wpAnyH_take (i := 3) (oi := ⟨some 67, _, _, _, _, _⟩) (v := ?_) rfl (by kernel_rfl) (by kernel_rfl) (by kernel_rfl) (fun _ _ _ h => False.elim h) (Or.inl ⟨by rfl, ?_⟩) (by assumption) ?_
          rotate_left
          · intro w hSw
            (try dsimp only at hSw)
            go_simp
            all_goals with_reducible rfl
          (try simp only [Act.put, List.setIfInBounds_toArray, List.set_cons_zero, List.set_cons_succ])
          refine wpAnyH_take (i := 4) (oi := ⟨some 68, _, _, _, _, _⟩) (v := ?_) rfl (by kernel_rfl) (by kernel_rfl) (by kernel_rfl) (fun _ _ _ h => False.elim h) (Or.inl ⟨by rfl, ?_⟩) (by assumption) ?_
          rotate_left
          · intro w hSw
            (try dsimp only at hSw)
            go_simp
            all_goals with_reducible rfl
          (try simp only [Act.put, List.setIfInBounds_toArray, List.set_cons_zero, List.set_cons_succ])
          refine wpAnyH_take (i := 5) (oi := ⟨some 69, _, _, _, _, _⟩) (v := ?_) rfl (by kernel_rfl) (by kernel_rfl) (by kernel_rfl) (fun _ _ _ h => False.elim h) (Or.inl ⟨by rfl, ?_⟩) (by assumption) ?_
          rotate_left
          · intro w hSw
            (try dsimp only at hSw)
            go_simp
            all_goals with_reducible rfl
          (try simp only [Act.put, List.setIfInBounds_toArray, List.set_cons_zero, List.set_cons_succ])
          refine wpAnyH_take (i := 6) (oi := ⟨some 70, _, _, _, _, _⟩) (v := ?_) rfl (by kernel_rfl) (by kernel_rfl) (by kernel_rfl) (fun _ _ _ h => False.elim h) (Or.inl ⟨by rfl, ?_⟩) (by assumption) ?_
          rotate_left
          · intro w hSw
            (try dsimp only at hSw)
            go_simp
            all_goals with_reducible rfl
          (try simp only [Act.put, List.setIfInBounds_toArray, List.set_cons_zero, List.set_cons_succ])
          refine wpAnyH_take (i := 7) (oi := ⟨some 71, _, _, _, _, _⟩) (v := ?_) rfl (by kernel_rfl) (by kernel_rfl) (by kernel_rfl) (fun _ _ _ h => False.elim h) (Or.inl ⟨by rfl, ?_⟩) (by assumption) ?_
          rotate_left
          · intro w hSw
            (try dsimp only at hSw)
            go_simp
            all_goals with_reducible rfl
          (try simp only [Act.put, List.setIfInBounds_toArray, List.set_cons_zero, List.set_cons_succ])
          refine wpAnyH_take (i := 8) (oi := ⟨some 72, _, _, _, _, _⟩) (v := ?_) rfl (by kernel_rfl) (by kernel_rfl) (by kernel_rfl) (fun _ _ _ h => False.elim h) (Or.inl ⟨by rfl, ?_⟩) (by assumption) ?_
          rotate_left
          · intro w hSw
            (try dsimp only at hSw)
            go_simp
            all_goals with_reducible rfl
          (try simp only [Act.put, List.setIfInBounds_toArray, List.set_cons_zero, List.set_cons_succ])
          refine wpAnyH_take (i := 9) (oi := ⟨some 73, _, _, _, _, _⟩) (v := ?_) rfl (by kernel_rfl) (by kernel_rfl) (by kernel_rfl) (fun _ _ _ h => False.elim h) (Or.inl ⟨by rfl, ?_⟩) (by assumption) ?_
          rotate_left
          · intro w hSw
            (try dsimp only at hSw)
            go_simp
            all_goals with_reducible rfl
          (try simp only [Act.put, List.setIfInBounds_toArray, List.set_cons_zero, List.set_cons_succ])
          refine wpAnyH_take (i := 10) (oi := ⟨some 74, _, _, _, _, _⟩) (v := .agg (sum.map (Value.int .u8)).toArray) rfl (by kernel_rfl) (by kernel_rfl) (by kernel_rfl) (fun _ _ _ h => False.elim h) ?_ (by assumption) ?_
          · refine yieldsIf_load_mid ?_ 40 _ rfl b (off + k * 36 + 3) rfl (sum.map (Value.int .u8)) _ ?_ HU.out rfl HSZ.out
            · rfl
            · (intro w hSw; (try dsimp only at hSw); go_split_ands; assumption)
          (try simp only [Act.put, List.setIfInBounds_toArray, List.set_cons_zero, List.set_cons_succ])
          refine wpAnyH_ready (rs := [11]) (by kernel_rfl) (by simp) ?_
          refine AllReadyH.cons (o := ⟨some 75, _, _, _, _, _⟩) rfl (fun K hK => ?_) AllReadyH.nil
          go_simp
          (refine HASK.out.mono ?_; rintro e w5 ⟨X, hX, rfl, hS5, hK5⟩; have HB5 := Lib.hid (below_keeps HB0d.out hK5 (Nat.le_refl _) (fun i hi => by rw [hi]; exact HG.out)); have HS5 := Lib.hid hS5; obtain ⟨-, -, f2, f3, -⟩ := HPART.out w5 HB5.out; clear hX hS5 hK5)
          (try go_wp2_with fail)
          refine hK.out _ _ ?_ (fun hHeld => ?_)
          · ((try dsimp only); refine ⟨?_, ?_⟩ <;> (first | assumption | (go_keep; done)))
          clear hK K
          (try simp only [Act.put, List.setIfInBounds_toArray, List.set_cons_zero, List.set_cons_succ])
          refine wpAnyH_done (by kernel_rfl) ?_ _
          refine NoPanic.normal ?_
          have HBACK := Lib.hid (back_any HS5.out sum HSL.out)
          go_upto_region 10 with fail
          refine wp_region_lit ?_
          refine wpList_read (o := ⟨some 76, _, _, _, _, _⟩) (v := ?_) (by rfl) ?_ ?_
          rotate_left
          · go_simp
            all_goals with_reducible rfl
          (try simp only [Act.put, List.setIfInBounds_toArray, List.set_cons_zero, List.set_cons_succ])
          refine wpList_read (o := ⟨some 77, _, _, _, _, _⟩) (v := ?_) (by rfl) ?_ ?_
          rotate_left
          · go_simp
            all_goals with_reducible rfl
          (try simp only [Act.put, List.setIfInBounds_toArray, List.set_cons_zero, List.set_cons_succ])
          refine wpList_read (o := ⟨some 78, _, _, _, _, _⟩) (v := ?_) (by rfl) ?_ ?_
          rotate_left
          · go_simp
            all_goals with_reducible rfl
          (try simp only [Act.put, List.setIfInBounds_toArray, List.set_cons_zero, List.set_cons_succ])
          refine wpList_read (o := ⟨some 79, _, _, _, _, _⟩) (v := ?_) (by rfl) ?_ ?_
          rotate_left
          · go_simp
            all_goals with_reducible rfl
          (try simp only [Act.put, List.setIfInBounds_toArray, List.set_cons_zero, List.set_cons_succ])
          refine wpList_read (o := ⟨some 80, _, _, _, _, _⟩) (v := ?_) (by rfl) ?_ ?_
          rotate_left
          · go_simp
            all_goals with_reducible rfl
          (try simp only [Act.put, List.setIfInBounds_toArray, List.set_cons_zero, List.set_cons_succ])
          refine wpList_wantS (o := ⟨some 81, .load 40 _, _, _, _, _⟩) (v := .agg (sum.map (Value.int .u8)).toArray) (by rfl) (exec_loadS rfl b (off + k * 36 + 3) rfl (sum.map (Value.int .u8)) _ f3 HU.out rfl HSZ.out) ?_
          (try simp only [Act.put, List.setIfInBounds_toArray, List.set_cons_zero, List.set_cons_succ])
          go_wp2_with fail
          refine HBACK.out.mono ?_; rintro e w6 ⟨rfl, hS6, hK6⟩
          have HB6 := Lib.hid (below_keeps HB5.out hK6 (Nat.le_refl _) (fun i hi => by rw [hi]; exact HG.out))
          have HS6 := Lib.hid hS6
          clear hS6 hK6 d2 d3 f2 f3
          go_wp2_with fail
          go_roundw
          case rel => exact ⟨k + 1, _, _, _, by omega, by go_num, HG.out, HS6.out, HB6.out⟩
          case measure => simp [intOf]; omega
      · obtain rfl : k = n1 := by omega
        have HG := Lib.hid hg
        have HB := Lib.hid hB
        have HS := Lib.hid hS
        clear hg hS hB
        go_upto_region 11 with fail
        exact stay_was (by rename_i hK'; exact hK') HB.out HP.out HS.out HR.out hnc hn20
set_option maxRecDepth 100000 in
theorem spotsStay_walk {H : Type} {enc : TypeId × Value → H} {base : Nat} {d1 : DataW H} {p1 : List MemPlace} (a0 : Int) (v1 : Value) (A2 : Option Addr) (n2 c2 : Nat) (x2 : List Int) (w : World)
    (w0 : (Lit.int .u32 a0).wf = true) (o1 : Value.okWide Try.prog w .any base 48 v1) (k1 : DataW.Trod enc Try.prog w 0 (fun _ => true) true 48 v1 d1 p1) (z1 : (d1.weights Try.prog 48).all (· ≤ reachBytes) = true) (r2 : Rd w .u32 A2 n2 x2) (l2 : n2 ≤ c2) :
    Calls Try.prog 6 #[.int .u32 a0, v1, .slice A2 n2 c2] w fun e w' => e = .returned (.bool true) ∧ Below w.heap.size w w' := by
  obtain ⟨f0, hf0⟩ := k1
  obtain ⟨A, n, c, xs, ep, hps, hn⟩ := open_sacts hf0 z1
  obtain ⟨av, nv, cv, rfl⟩ : ∃ av nv cv, v1 = .slice av nv cv := okWide_slice Try.underlying48 o1
  simp only [Value.cells] at ep
  have ev : Value.slice av nv cv = .slice A n c := by simpa using ep
  rw [ev]
  exact stay_at a0 A n c xs A2 n2 c2 x2 w (wf_bounds_u32 w0) hps hn r2 l2
end Go.Proofs.Ytanpbimamdjdfaa
