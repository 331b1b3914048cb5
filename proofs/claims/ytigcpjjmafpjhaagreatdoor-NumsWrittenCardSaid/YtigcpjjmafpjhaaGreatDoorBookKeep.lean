/- A Book is told a list of bytes. -/
import Derived.Test.YtigcpjjmafpjhaaGreatDoorBookFill
import Derived.Deep.CutBlock
namespace Go.Proofs.YtigcpjjmafpjhaaGreatDoor
open Go.RowKit
set_option linter.unusedSimpArgs false
set_option linter.unusedVariables false

/-- What a Book's own note may turn: its own blocks, and new ones. -/
def ByBook (base B : Nat) (w : World) (i : Nat) : Prop := i = B ∨ (base ≤ i ∧ ∃ cur, w.heap[i]? = some (.cells cur 70 (0, 0))) ∨ w.heap.size ≤ i
theorem info_hb : (Tryz.prog.info? 70).map (fun i => (i.zero, i.size, i.bytes)) = some (some (.agg zHb.toArray), 3, 56) := by kernel_rfl
theorem run_build_hb (A : Option Addr) (n c : Nat) (m : Int) (W : World) : (Instr.build 70 #[(0, .slice A n c), (2, .int .i64 m)]).run Tryz.prog W = .ok (.agg #[.slice A n c, .slice none 0 0, .int .i64 m]) W := by kernel_rfl
theorem run_slice_hb (A : Option Addr) (n c : Nat) (m : Int) (W : World) : (Instr.buildSlice 36 1 #[(0, .agg #[.slice A n c, .slice none 0 0, .int .i64 m])]).run Tryz.prog W = .ok (.slice (some ⟨W.heap.size, 0, none⟩) 1 1) (W.alloc (.cells #[.slice A n c, .slice none 0 0, .int .i64 m] 70)) := by kernel_rfl
section
variable {P : Program} {ops : Array Oper} {o : Oper} {a : Act} {w w' : World} {Q : Exit → Act → World → Prop} {K : Act → World → Prop} {E : Prop}
theorem step_run {v : Value} (hgd : o.guard = none) (h : (execOp a.eval o).run P w = .ok (.value v) w') (k : K (a.put o.dst v) w') : if Region.wanted o (yielded ops a.tmps) = true then Oper.wp P o a w K Q else E := by
  have hw : Region.wanted o (yielded ops a.tmps) = true := by simp [Region.wanted, hgd]
  rw [if_pos hw]
  unfold Oper.wp
  rw [h]
  exact k
theorem yieldsIf_buildH {S : World → Prop} (hw : Region.wanted o (yielded ops a.tmps) = true) (ty : TypeId) (parts : Array (Nat × Operand)) (ho : o.op = .build ty parts) (v : Value)
    (hr : ∀ W, (Instr.build ty (parts.map fun (i, x) => (i, a.eval x))).run P W = .ok v W) : YieldsIf P ops S o v a :=
  .inl ⟨hw, fun w _ => by
    unfold execOp
    simp only [ho, Sem.run_bind, Sem.run_pure, Result.andThen_ok, hr]⟩
theorem exec_append {s x : Operand} {t : TypeId} {v : Value} {A : Addr} {m c : Nat} {v' : Value} (ho : o.op = .call { callee := .builtin .append, args := #[s, x], argTypes := #[t, t] }) (hs : a.eval s = v) (hx : a.eval x = .slice (some A) m c)
    (hr : (Builtin.append_ #[t, t] o.type #[v, .slice (some A) m c]).run P w = .ok v' w') : (execOp a.eval o).run P w = .ok (.value v') w' := by
  unfold execOp
  simp only [ho, resolve, invoke, builtin, Sem.run_bind, Sem.run_pure, Result.andThen_ok, List.map_toArray, List.map_cons, List.map_nil, hs, hx, hr]
end
set_option maxRecDepth 100000 in
set_option maxHeartbeats 8000000 in
theorem keepb_any (base B : Nat) (hs : List Hb) (A : Option Addr) (n c : Nat) (w : World) (hb : BookAt base w B hs) (hbase : base ≤ w.heap.size) (hf : hs.length < 100) :
    Calls Tryz.prog 25 #[.pointer (some ⟨B, 0, none⟩), .slice A n c] w fun e w' => e = .returned (.tuple #[]) ∧ BookAt base w' B (hs ++ [⟨A, n, c, none, 0, 0, hs.length + 1⟩]) ∧ Keeps (ByBook base B w) w w' := by
  obtain ⟨i0, hi, hzz⟩ := Option.map_eq_some_iff.1 info_hb
  simp only [Prod.mk.injEq] at hzz
  obtain ⟨hz0, hz1, hz2⟩ := hzz
  obtain ⟨S, hB, hO⟩ := hb.box
  obtain ⟨AS, cS, rfl, -⟩ := own_slice hO
  have hB0 := hB.cell 0
  have hBf := hB.free 0
  simp only [bookC, List.getElem?_cons_zero, List.getElem?_cons_succ] at hB0
  have hadd : IntKind.i64.wrap ((hs.length : Int) + 1) = (hs.length : Int) + 1 := IntWalk.i64_in _ (by omega)
  have hbx1 : Blk (w.setCell ⟨B, 0, none⟩ (.int .i64 ((hs.length : Int) + 1))) B 52 (.int .i64 ((hs.length : Int) + 1) :: (bookC hs.length (.slice AS hs.length cS)).tail) := hB.put 0 _
  have hneB : ∀ k, (Value.slice AS hs.length cS).ownBlock = some k → ¬ k = B := fun k hk e => own_blk_ne hO hB (by decide) (by rw [← e]; exact hk)
  have ho1 : (w.setCell ⟨B, 0, none⟩ (.int .i64 ((hs.length : Int) + 1))).ownsRow base 70 3 (.slice AS hs.length cS) hs.length (flatH hs) := (Keeps.set1 w ⟨B, 0, none⟩ _).own hO (fun k hk => hneB k hk)
  have hk1 : Keeps (ByBook base B w) w (w.setCell ⟨B, 0, none⟩ (.int .i64 ((hs.length : Int) + 1))) := (Keeps.refl _ w).setCell (.inl (.inl rfl)) _
  have hSb : ∀ k, (Value.slice AS hs.length cS).ownBlock = some k → ByBook base B w k := fun k hk => by
    rcases hO.2 with ⟨h1, _⟩ | ⟨g, cap, cur, h1, hbg, hh, _⟩
    · rw [h1] at hk; simp [Value.ownBlock] at hk
    · rw [h1] at hk
      have : g = k := by simpa [Value.ownBlock] using hk
      subst this
      exact .inr (.inl ⟨hbg, cur, hh⟩)
  obtain ⟨w1, hw1⟩ : ∃ w1, w.setCell ⟨B, 0, none⟩ (.int .i64 ((hs.length : Int) + 1)) = w1 := ⟨_, rfl⟩
  rw [hw1] at hbx1 ho1 hk1
  have hW1 := hw1
  have hn0 : w1.cell? ⟨B, 0, none⟩ = some (.int .i64 ((hs.length : Int) + 1)) := hbx1.cell 0
  have hn1 : w1.cell? ⟨B, 1, none⟩ = some (.slice AS hs.length cS) := hbx1.cell 1
  have hal1 : (w1.alloc (.cells #[.slice A n c, .slice none 0 0, .int .i64 ((hs.length : Int) + 1)] 70)).cell? ⟨B, 1, none⟩ = some (.slice AS hs.length cS) := (hbx1.alloc _).cell 1
  have hal0 : (w1.alloc (.cells #[.slice A n c, .slice none 0 0, .int .i64 ((hs.length : Int) + 1)] 70)).cell? ⟨B, 0, none⟩ = some (.int .i64 ((hs.length : Int) + 1)) := (hbx1.alloc _).cell 0
  have hbz : base ≤ w1.heap.size := Nat.le_trans hbase hk1.size
  have HW1 := Lib.hid hw1
  have HBX1 := Lib.hid hbx1
  have HO1 := Lib.hid ho1
  have HK1 := Lib.hid hk1
  have HSB := Lib.hid hSb
  have HNB := Lib.hid hneB
  have HLO := Lib.hid hb.lo
  have HI := Lib.hid hi
  have HZ0 := Lib.hid hz0
  have HZ1 := Lib.hid hz1
  have HZ2 := Lib.hid hz2
  have HBZ := Lib.hid hbz
  obtain ⟨N, hN⟩ : ∃ N, hs.length = N := ⟨_, rfl⟩
  have HN := Lib.hid hN
  rw [hN] at HBX1 HO1 HSB HNB HW1 hB0 hadd hn0 hn1 hf hal0 hal1
  clear hb hbase hi hz0 hz1 hz2 hB hO hbx1 hneB ho1 hk1 hSb hw1 hW1 hbz hN
  go_enter Tryz.func25, Tryz.ntmps25
  go_upto_region 1 with fail
  rw [HW1.out]
  go_region_law (first
    | (refine step_append_lies _ rfl _ _ 36 rfl base 70 i0 (.agg zHb.toArray) 3 56 Tryz.underlying36 HI.out HZ0.out HZ1.out HZ2.out rfl (by omega) (.slice AS N cS) N (flatH hs) (by simp [Act.eval, Act.put]) (by first | exact (HO1.out.drew).alloc _ | exact (HO1.out.alloc _).drew) ⟨w1.heap.size, 0, none⟩ 1 1
        [.slice A n c, .slice none 0 0, .int .i64 ((N : Int) + 1)] (by simp [Act.eval, Act.put]) rfl (World.news_of_block (cs := #[.slice A n c, .slice none 0 0, .int .i64 ((N : Int) + 1)]) (t := 70) (fr := (0, 0)) (heap_alloc_new w1 _)) (by simp [Value.oneCell']) (by omega) (by unfold maxLen; omega) (by omega) (by have := HBZ.out; simp; omega) (w1.heap.size + 1) (by simp) ?_
       intro g3 c3 w3 ho3 hg3 hb3 hl3
       have hB3 : Blk w3 B 52 (.int .i64 ((N : Int) + 1) :: (bookC N (.slice AS N cS)).tail) := (hg3.block B (by have := HBX1.out.lt; simp; omega) (fun e => HNB.out B e.symm rfl)).trans ((HBX1.out.alloc (.cells #[.slice A n c, .slice none 0 0, .int .i64 ((N : Int) + 1)] 70)))
       have h31 : w3.cell? ⟨B, 1, none⟩ = some (.slice AS N cS) := hB3.cell 1
       have h31f : w3.frozen? ⟨B, 1, none⟩ = false := hB3.free 1
       have HB3 := Lib.hid hB3
       have HO3 := Lib.hid ho3
       have HG3 := Lib.hid hg3
       clear ho3 hg3 hb3 hB3))
  all_goals
    go_end0
    refine ⟨rfl, ⟨⟨.slice (some ⟨g3, 0, none⟩) (N + 1) c3, ?_, ?_⟩, HLO.out, by rw [List.length_append, HN.out]; simp; omega⟩, ?_⟩
    · have hput := HB3.out.put 1 (.slice (some ⟨g3, 0, none⟩) (N + 1) c3)
      have e : bookC (hs ++ [(⟨A, n, c, none, 0, 0, hs.length + 1⟩ : Hb)]).length (.slice (some ⟨g3, 0, none⟩) (N + 1) c3) = (Value.int .i64 ((N : Int) + 1) :: (bookC N (.slice AS N cS)).tail).set 1 (.slice (some ⟨g3, 0, none⟩) (N + 1) c3) := by
        simp [bookC, HN.out]
      rw [e]
      exact hput
    · have hrow := (Keeps.set1 w3 ⟨B, 1, none⟩ (.slice (some ⟨g3, 0, none⟩) (N + 1) c3)).own HO3.out (fun k hk e => own_blk_ne HO3.out HB3.out (by decide) (by rw [hk]; exact congrArg some e))
      have e : hbC (⟨A, n, c, none, 0, 0, hs.length + 1⟩ : Hb) = [.slice A n c, .slice none 0 0, .int .i64 ((N : Int) + 1)] := by
        simp [hbC, Hb.l, Hb.long, HN.out]
      rw [flatH_snoc, e, List.length_append, HN.out]
      exact hrow
    · exact (((HK1.out.alloc _).drew).grown HG3.out (fun k hk => .inl (HSB.out k hk))).setCell (.inl (.inl rfl)) _

theorem bytes_any (base B : Nat) (hs : List Hb) (A : Option Addr) (n c : Nat) (w : World) (hb : BookAt base w B hs) (hbase : base ≤ w.heap.size) (hf : hs.length < 100) :
    Calls Tryz.prog 15 #[.pointer (some ⟨B, 0, none⟩), .slice A n c] w fun e w' => e = .returned (.tuple #[]) ∧ BookAt base w' B (hs ++ [⟨A, n, c, none, 0, 0, hs.length + 1⟩]) ∧ Keeps (ByBook base B w) w w' := by
  have HK := Lib.hid (keepb_any base B hs A n c w hb hbase hf)
  clear hb hbase hf
  go_enter Tryz.func15, Tryz.ntmps15
  go_wp2_with fail
  refine HK.out.mono ?_; rintro e w1 ⟨rfl, h1, h2⟩
  have H1 := Lib.hid h1
  have H2 := Lib.hid h2
  clear h1 h2
  go_wp2_with fail
  go_end0
  exact ⟨rfl, H1.out, H2.out⟩
/-- A row of bytes stays while a Book is told of another. -/
theorem RowIs.keepBook {base B : Nat} {w w' : World} {h : Hb} {xs : List Int} {hs : List Hb} (hr : RowIs base w h xs) (hb : BookAt base w B hs) (hk : Keeps (ByBook base B w) w w') : RowIs base w' h xs :=
  hr.keep hk (fun k hk2 hm => by
    obtain ⟨_, hlt, cur, h2⟩ := hr.u8 hk2
    rcases hm with rfl | ⟨_, cur2, h3⟩ | h3
    · obtain ⟨S, hB, _⟩ := hb.box
      unfold Blk at hB
      rw [hB] at h2
      injection h2 with h2
      injection h2 with _ h2 _
      exact absurd h2 (by decide)
    · rw [h3] at h2
      injection h2 with h2
      injection h2 with _ h2 _
      exact absurd h2 (by decide)
    · omega)
theorem ByBook.lo {base B : Nat} {w : World} (hB : base ≤ B) (hw : base ≤ w.heap.size) {i : Nat} (h : ByBook base B w i) : base ≤ i := by
  rcases h with rfl | ⟨h, _⟩ | h
  · exact hB
  · exact h
  · omega
end Go.Proofs.YtigcpjjmafpjhaaGreatDoor
