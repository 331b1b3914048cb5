/- What a Book's own notes turn; A Book is told a list of one kind (Spot). Printed by mkbk.py. -/
import Derived.Test.YtgecfcdafbedaaaGreatDoorZRSpotsPlayUpto30
import Derived.Test.YtgecfcdafbedaaaGreatDoorZRSpotsPlayUpto31
import Derived.Deep.CutBlock
namespace Go.Proofs.YtgecfcdafbedaaaGreatDoor
open Go.RowKit
set_option linter.unusedVariables false
set_option linter.unusedSimpArgs false

/-- What a Book's own note may turn: its own blocks, and new ones. -/
def ByBook (base B : Nat) (T : TypeId) (w : World) (i : Nat) : Prop := i = B ∨ ByTy base T w i
theorem ByTy.lo {base : Nat} {T : TypeId} {w : World} (hw : base ≤ w.heap.size) {i : Nat} (h : ByTy base T w i) : base ≤ i := by
  rcases h with ⟨h, _⟩ | h
  · exact h
  · omega
theorem ByBook.lo {base B : Nat} {T : TypeId} {w : World} (hB : base ≤ B) (hw : base ≤ w.heap.size) {i : Nat} (h : ByBook base B T w i) : base ≤ i := by
  rcases h with rfl | h
  · exact hB
  · exact h.lo hw
/-- A row of elements stays while a Book is told of one. -/
theorem RowG.keepBook {E : TypeId} {q base base' B m k : Nat} {w w' : World} {v : Value} {n : Nat} {cs : List Value} {H : Nat → List Hb} (hr : RowG E q base' w v n cs) (hf : Far E) (h1 : 1 ≤ k) (h2 : k ≤ 15) (hb : BookAt base w B m H) (hk : Keeps (ByBook base B (HT k) w) w w') : RowG E q base' w' v n cs :=
  hr.keep hk (fun x hx hm => by
    obtain ⟨_, hlt, cur, hc⟩ := hr.ty hx
    rcases hm with rfl | ⟨_, cur2, h3⟩ | h3
    · obtain ⟨S, hB, _⟩ := hb.box
      exact hf.1 (ty_one hc hB)
    · exact hf.2 ⟨k, by omega⟩ h1 (ty_one h3 hc)
    · omega)
theorem BookAt.lower {base base' B m : Nat} {w : World} {H : Nat → List Hb} (h : BookAt base w B m H) (hb : base' ≤ base) : BookAt base' w B m H := by
  obtain ⟨S, h1, h2, h3⟩ := h.box
  exact ⟨⟨S, h1, fun k hk1 hk2 => own_lower (h2 k hk1 hk2) hb, h3⟩, Nat.le_trans hb h.lo, h.few, h.most⟩
/-- A Book that is new. -/
def noH : Nat → List Hb := fun _ => []
def zBook : List Value := bookV 0 (fun _ => .slice none 0 0)
theorem run_build_book (W : World) : (Instr.build 49 #[]).run Tryz.prog W = .ok (.agg zBook.toArray) W := by kernel_rfl
theorem exec_alloc_book (W : World) (o : Oper) (ho : o.op = .alloc 49) (ev : Operand → Value) : (execOp ev o).run Tryz.prog W = .ok (.value (.pointer (some ⟨W.heap.size, 0, none⟩))) (W.alloc (.cells zBook.toArray 49)) := by
  obtain ⟨d, op, t, p, af, g⟩ := o
  simp only at ho
  subst ho
  kernel_rfl
theorem Blk.whole {w : World} {g : Nat} {t : TypeId} {cs : List Value} (h : Blk w g t cs) (ds : List Value) (hl : ds.length = cs.length) : Blk (w.setCells g 0 ds) g t ds := by
  have := Blk.setCells ds 0 w cs h (by omega)
  rwa [splice_whole cs ds hl] at this
theorem book_blk {base B : Nat} {w : World} (h : Blk w B 49 zBook) (hb : base ≤ B) : BookAt base w B 0 noH :=
  ⟨⟨fun _ => .slice none 0 0, h, fun _ _ _ => own_nil _ _ _ _, fun _ _ => rfl⟩, hb, fun _ _ _ => by simp [noH], by omega⟩
theorem book_new {base : Nat} (w : World) (hb : base ≤ w.heap.size) : BookAt base (w.alloc (.cells zBook.toArray 49)) w.heap.size 0 noH := book_blk (Blk.new w 49 zBook) hb
theorem book_new2 {base : Nat} (w : World) (hb : base ≤ w.heap.size) : BookAt base ((w.alloc (.cells zBook.toArray 49)).setCells w.heap.size 0 zBook) w.heap.size 0 noH ∧ Below w.heap.size w ((w.alloc (.cells zBook.toArray 49)).setCells w.heap.size 0 zBook) :=
  ⟨book_blk ((Blk.new w 49 zBook).whole zBook rfl) hb, below_keeps ((Below.refl _ w).alloc (Nat.le_refl _) _) (Keeps.setCells zBook 0 _) (Nat.le_refl _) (fun i hi => by omega)⟩
end Go.Proofs.YtgecfcdafbedaaaGreatDoor

namespace Go.Proofs.YtgecfcdafbedaaaGreatDoor
open Go.RowKit
set_option linter.unusedSimpArgs false
set_option linter.unusedVariables false

theorem info_hSpot : (Tryz.prog.info? 102).map (fun i => (i.zero, i.size, i.bytes)) = some (some (.agg zHb.toArray), 3, 56) := by kernel_rfl
set_option maxRecDepth 100000 in
set_option maxHeartbeats 8000000 in
theorem keepSpot_any (base B m : Nat) (H : Nat → List Hb) (A : Option Addr) (n c : Nat) (w : World) (hb : BookAt base w B m H) (hbase : base ≤ w.heap.size) (hf : m < 30000) :
    Calls Tryz.prog 36 #[.pointer (some ⟨B, 0, none⟩), .slice A n c] w fun e w' => e = .returned (.tuple #[]) ∧ BookAt base w' B (m + 1) (upd H 7 (H 7 ++ [⟨A, n, c, none, 0, 0, m + 1⟩])) ∧ Keeps (ByBook base B 102 w) w w' := by
  obtain ⟨i0, hi, hzz⟩ := Option.map_eq_some_iff.1 info_hSpot
  simp only [Prod.mk.injEq] at hzz
  obtain ⟨hz0, hz1, hz2⟩ := hzz
  obtain ⟨S, hB, hO, hNil⟩ := hb.box
  have hOx := hO 7 (by omega) (by omega)
  obtain ⟨AS, cS, hSx, -⟩ := own_slice hOx
  have hlx : (H 7).length ≤ m := hb.few 7 (by omega) (by omega)
  have hB0 : w.cell? ⟨B, 0, none⟩ = some (.int .i64 (m : Int)) := hB.cell 0
  have hBf := hB.free 0
  have hadd : IntKind.i64.wrap ((m : Int) + 1) = (m : Int) + 1 := IntWalk.i64_in _ (by omega)
  have hbx1 : Blk (w.setCell ⟨B, 0, none⟩ (.int .i64 ((m : Int) + 1))) B 49 (bookV (m + 1) S) := by
    have := hB.put 0 (.int .i64 ((m : Int) + 1))
    have e : (bookV m S).set 0 (.int .i64 ((m : Int) + 1)) = bookV (m + 1) S := by simp [bookV]
    rwa [e] at this
  have hneB : ∀ k, 1 ≤ k → k ≤ 15 → ∀ x, (S k).ownBlock = some x → ¬ x = B := fun k h1 h2 x hx e => by
    obtain ⟨_, _, cur, hc⟩ := own_type (hO k h1 h2) hx
    rw [e] at hc
    exact HT_book ⟨k, by omega⟩ h1 (ty_one hc hB)
  have ho1 : ∀ k, 1 ≤ k → k ≤ 15 → (w.setCell ⟨B, 0, none⟩ (.int .i64 ((m : Int) + 1))).ownsRow base (HT k) 3 (S k) (H k).length (flatH (H k)) := fun k h1 h2 => (Keeps.set1 w ⟨B, 0, none⟩ _).own (hO k h1 h2) (fun x hx => hneB k h1 h2 x hx)
  have hk1 : Keeps (ByBook base B 102 w) w (w.setCell ⟨B, 0, none⟩ (.int .i64 ((m : Int) + 1))) := (Keeps.refl _ w).setCell (.inl (.inl rfl)) _
  have hSb : ∀ k, (Value.slice AS (H 7).length cS).ownBlock = some k → ByBook base B 102 w k := fun k hk => by
    obtain ⟨h1, _, h3⟩ := own_type hOx (by rw [hSx]; exact hk)
    exact .inr (.inl ⟨h1, h3⟩)
  obtain ⟨w1, hw1⟩ : ∃ w1, w.setCell ⟨B, 0, none⟩ (.int .i64 ((m : Int) + 1)) = w1 := ⟨_, rfl⟩
  rw [hw1] at hbx1 ho1 hk1
  have hn0 : w1.cell? ⟨B, 0, none⟩ = some (.int .i64 ((m : Int) + 1)) := by have := hbx1.cell 0; simpa [bookV] using this
  have hn1 : w1.cell? ⟨B, 7, none⟩ = some (.slice AS (H 7).length cS) := by rw [← hSx]; exact hbx1.cell 7
  have hal1 : (w1.alloc (.cells #[.slice A n c, .slice none 0 0, .int .i64 ((m : Int) + 1)] 102)).cell? ⟨B, 7, none⟩ = some (.slice AS (H 7).length cS) := by rw [← hSx]; exact (hbx1.alloc _).cell 7
  have hal0 : (w1.alloc (.cells #[.slice A n c, .slice none 0 0, .int .i64 ((m : Int) + 1)] 102)).cell? ⟨B, 0, none⟩ = some (.int .i64 ((m : Int) + 1)) := by have := (hbx1.alloc (.cells #[.slice A n c, .slice none 0 0, .int .i64 ((m : Int) + 1)] 102)).cell 0; simpa [bookV] using this
  have hbz : base ≤ w1.heap.size := Nat.le_trans hbase hk1.size
  have hox1 : w1.ownsRow base 102 3 (.slice AS (H 7).length cS) (H 7).length (flatH (H 7)) := by rw [← hSx]; exact ho1 7 (by omega) (by omega)
  have hnx : ∀ x, (Value.slice AS (H 7).length cS).ownBlock = some x → ¬ x = B := by rw [← hSx]; exact hneB 7 (by omega) (by omega)
  have HW1 := Lib.hid hw1
  have HBX1 := Lib.hid hbx1
  have HOX1 := Lib.hid hox1
  have HO1 := Lib.hid ho1
  have HK1 := Lib.hid hk1
  have HSB := Lib.hid hSb
  have HNX := Lib.hid hnx
  have HNIL := Lib.hid hNil
  have HSX := Lib.hid hSx
  have HFEW := Lib.hid hb.few
  have HLO := Lib.hid hb.lo
  have HI := Lib.hid hi
  have HZ0 := Lib.hid hz0
  have HZ1 := Lib.hid hz1
  have HZ2 := Lib.hid hz2
  have HBZ := Lib.hid hbz
  have HM := Lib.hid hf
  obtain ⟨N, hN⟩ : ∃ N, (H 7).length = N := ⟨_, rfl⟩
  have HN := Lib.hid hN
  rw [hN] at HOX1 HSB HNX hn1 hlx hal1 HSX
  clear hb hbase hi hz0 hz1 hz2 hB hO hbx1 hneB ho1 hk1 hSb hw1 hbz hN hox1 hnx hNil hSx hOx
  go_enter Tryz.func36, Tryz.ntmps36
  go_upto_region 1 with fail
  rw [HW1.out]
  go_region_law (first
    | (refine step_append_lies _ rfl _ _ 39 rfl base 102 i0 (.agg zHb.toArray) 3 56 Tryz.underlying39 HI.out HZ0.out HZ1.out HZ2.out rfl (by omega) (.slice AS N cS) N (flatH (H 7)) (by simp [Act.eval, Act.put]) (by first | exact (HOX1.out.drew).alloc _ | exact (HOX1.out.alloc _).drew) ⟨w1.heap.size, 0, none⟩ 1 1
        [.slice A n c, .slice none 0 0, .int .i64 ((m : Int) + 1)] (by simp [Act.eval, Act.put]) rfl (World.news_of_block (cs := #[.slice A n c, .slice none 0 0, .int .i64 ((m : Int) + 1)]) (t := 102) (fr := (0, 0)) (heap_alloc_new w1 _)) (by simp [Value.oneCell']) (by omega) (by unfold maxLen; omega) (by omega) (by have := HBZ.out; simp; omega) (w1.heap.size + 1) (by simp) ?_
       intro g3 c3 w3 ho3 hg3 hb3 hl3
       have hB3 : Blk w3 B 49 (bookV (m + 1) S) := (hg3.block B (by have := HBX1.out.lt; simp; omega) (fun e => HNX.out B e.symm rfl)).trans ((HBX1.out.alloc (.cells #[.slice A n c, .slice none 0 0, .int .i64 ((m : Int) + 1)] 102)))
       have h31 : w3.cell? ⟨B, 7, none⟩ = some (.slice AS N cS) := by rw [← HSX.out]; exact hB3.cell 7
       have h31f : w3.frozen? ⟨B, 7, none⟩ = false := hB3.free 7
       have HB3 := Lib.hid hB3
       have HO3 := Lib.hid ho3
       have HG3 := Lib.hid hg3
       clear ho3 hg3 hb3 hB3))
  all_goals
    go_end0
    have hset : Keeps (· = B) w3 (w3.setCell ⟨B, 7, none⟩ (.slice (some ⟨g3, 0, none⟩) (N + 1) c3)) := Keeps.set1 w3 ⟨B, 7, none⟩ _
    have hput := HB3.out.put 7 (.slice (some ⟨g3, 0, none⟩) (N + 1) c3)
    rw [bookV_set (m + 1) (m + 1) S _ (by omega) (by omega)] at hput
    refine ⟨rfl, ⟨⟨upd S 7 (.slice (some ⟨g3, 0, none⟩) (N + 1) c3), hput, fun k h1 h2 => ?_, fun k hk => ?_⟩, HLO.out, fun k h1 h2 => ?_, by have := HM.out; omega⟩, ?_⟩
    · by_cases hkx : k = 7
      · subst hkx
        rw [upd_same, upd_same]
        have hrow := hset.own HO3.out (fun k hk e => own_blk_ne HO3.out HB3.out (by decide) (by rw [hk]; exact congrArg some e))
        have e : hbC (⟨A, n, c, none, 0, 0, m + 1⟩ : Hb) = [.slice A n c, .slice none 0 0, .int .i64 ((m : Int) + 1)] := by
          simp [hbC, Hb.l, Hb.long]
        rw [flatH_snoc, e, List.length_append, HN.out]
        exact hrow
      · rw [upd_ne _ _ hkx, upd_ne _ _ hkx]
        have h4 := HO1.out k h1 h2
        have h5 : (w1.alloc (.cells #[.slice A n c, .slice none 0 0, .int .i64 ((m : Int) + 1)] 102)).ownsRow base (HT k) 3 (S k) (H k).length (flatH (H k)) := h4.alloc _
        have h6 : w3.ownsRow base (HT k) 3 (S k) (H k).length (flatH (H k)) := by
          refine (Keeps.grown (M := fun i => (Value.slice AS N cS).ownBlock = some i) (Keeps.refl _ _) HG3.out (fun k hk => .inl hk)).own (by first | exact h5 | exact h5.drew) (fun x hx hm => ?_)
          obtain ⟨_, _, cur, hc⟩ := own_type h4 hx
          obtain ⟨_, _, cur2, hc2⟩ := own_type HOX1.out hm
          exact HT_ne h1 h2 (k := 7) (by omega) (by omega) hkx (ty_one hc hc2)
        refine hset.own h6 (fun x hx e => ?_)
        obtain ⟨_, _, cur, hc⟩ := own_type h6 hx
        rw [e] at hc
        exact HT_book ⟨k, by omega⟩ h1 (ty_one hc HB3.out)
    · by_cases hkx : k = 7
      · subst hkx
        rw [upd_same] at hk
        simp at hk
      · rw [upd_ne _ _ hkx] at hk
        rw [upd_ne _ _ hkx]
        exact HNIL.out k hk
    · by_cases hkx : k = 7
      · subst hkx
        rw [upd_same, List.length_append, HN.out]
        simp; omega
      · rw [upd_ne _ _ hkx]
        have := HFEW.out k h1 h2
        omega
    · exact (((HK1.out.alloc _).drew).grown HG3.out (fun k hk => .inl (HSB.out k hk))).setCell (.inl (.inl rfl)) _
end Go.Proofs.YtgecfcdafbedaaaGreatDoor
