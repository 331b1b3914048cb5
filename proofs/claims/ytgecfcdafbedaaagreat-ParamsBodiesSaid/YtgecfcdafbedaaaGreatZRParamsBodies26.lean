/- The walks over the readers of bodies: number, GetLane$1, GetSig$1, readPuzzle, GetSolution$1, work; A struct that is built, in a region that draws its order. -/
import Derived.Test.YtgecfcdafbedaaaGreatZRParamsBodies24
import Derived.Test.YtgecfcdafbedaaaGreatZRParamsBodies25
import Derived.Deep.DrawnRows
import Derived.Deep.RegionHeld3
import Derived.Test.YtgecfcdafbedaaaGreatZRParamsBodies22
namespace Go.Proofs.YtgecfcdafbedaaaGreat
open Go.RowKit
set_option linter.unusedSimpArgs false
set_option linter.unusedVariables false

/-- A long number's cells, of 32 bytes. -/
def longC (bs : List Int) : List Value := (longGot bs 32).map (Value.int .u64)
theorem longC_len (bs : List Int) : (longC bs).length = 4 := rfl
set_option maxRecDepth 100000 in
set_option maxHeartbeats 2000000 in
theorem number_any (A : Option Addr) (c : Nat) (bs : List Int) (w : World) (r : Rd w .u8 A 32 bs) (l : 32 ≤ c) :
    Calls Tryz.prog 55 #[.slice A 32 c] w fun e w' => e = .returned (.agg (longC bs).toArray) ∧ Below w.heap.size w w' := by
  obtain ⟨S, hS⟩ : ∃ S, w.heap.size = S := ⟨_, rfl⟩
  have HS := Lib.hid hS
  have hg := fun w1 (hB : Below w.heap.size w w1) => getlong_any A 32 c bs w1 (r.below hB) l
  have e1 : longE 32 = 0 := rfl
  have e2 : longOf (longGot bs 32) = .agg (longC bs).toArray := rfl
  rw [e1, e2] at hg
  have HG := Lib.hid hg
  have HAL := Lib.hid alloc_num
  have HU := Lib.hid Tryz.underlying31
  have hsz : (Tryz.prog.info? 31).map (·.size) = some zNUM.length := by kernel_rfl
  have hszv : (Tryz.prog.info? 31).map (·.size) = some (longC bs).length := size_num
  have hl : (longC bs).length = zNUM.length := rfl
  have h1 : ∀ v ∈ longC bs, v.oneCell' = true := one_ints
  generalize longC bs = V at HG hszv hl h1 ⊢
  have HSZ := Lib.hid hsz
  have HSZV := Lib.hid hszv
  have HL := Lib.hid hl
  have H1 := Lib.hid h1
  generalize zNUM = Z at HAL HSZ HL
  clear hS hg e1 e2 r hsz hszv hl h1
  go_enter Tryz.func55, Tryz.ntmps55
  go_upto_region 0 with fail
  refine wp_region_lit ?_
  refine wpList_allocT (o := ⟨some 2, .alloc 31, _, _, _, _⟩) rfl 31 Z (fun W => HAL.out W _ rfl _) ?_; intro w1 HK1 HB1
  rw [HS.out] at HK1 ⊢
  go_wp2_with fail
  refine (HG.out w1 HB1.out).mono ?_; rintro e w2 ⟨rfl, hB2⟩
  have HK2 : Hid (Blk w2 S 31 Z) := Lib.hid (HK1.out.keep (Keeps.of_below (M := fun _ => False) hB2) (fun h => h))
  have HB2 := Lib.hid (HB1.out.trans (hB2.mono HB1.out.size))
  have HS2 := Lib.hid (show S < w2.heap.size from HK2.out.lt)
  clear hB2
  go_upto_region 2 with (first
    | (refine wpList_allocT (o := ⟨some 3, .alloc 31, _, _, _, _⟩) rfl 31 Z (fun W => HAL.out W _ rfl _) ?_; intro w3 HK3 HB3; obtain ⟨T, hT⟩ : ∃ T, w2.heap.size = T := ⟨_, rfl⟩; have HT := Lib.hid hT; rw [hT] at HK3 ⊢; clear hT)
    | (refine wpList_over (o := ⟨none, .store 31 _ _, _, _, _, _⟩) rfl 31 _ _ rfl T V Z 31 rfl rfl HK3.out HL.out HSZV.out H1.out ?_; intro w4 HK4 hk4))
  have HKS : Hid (Blk w4 S 31 Z) := Lib.hid ((HK2.out.keep (Keeps.of_below (M := fun _ => False) HB3.out) (fun h => h)).keep hk4.out (fun h => by have := HS2.out; have := HT.out; omega))
  have HB4 := Lib.hid (below_keeps (HB2.out.trans (HB3.out.mono HB2.out.size)) hk4.out (Nat.le_refl _) (fun i hi => by rw [hi, ← HT.out]; exact HB2.out.size))
  refine wp_region_lit ?_
  refine wpList_loadT (o := ⟨some 10, .load 31 _, _, _, _, _⟩) rfl 31 _ rfl T rfl 31 V _ HK4.out HU.out rfl HSZV.out ?_
  refine wpList_over (o := ⟨none, .store 31 _ _, _, _, _, _⟩) rfl 31 _ _ rfl S V Z 31 rfl rfl HKS.out HL.out HSZV.out H1.out ?_; intro w5 HK5 hk5
  have HB5 := Lib.hid (below_keeps HB4.out hk5.out (Nat.le_refl _) (fun i hi => by rw [hi, HS.out]; exact Nat.le_refl _))
  clear hk4 hk5 HB3 HB2
  go_wp2_with fail
  refine bodyPost_ret (results_rowT rfl _ S _ _ _ rfl HK5.out HU.out rfl HSZV.out) rfl ?_
  exact ⟨rfl, HB5.out⟩
set_option maxHeartbeats 1000000 in
theorem work_any (A : Option Addr) (n c : Nat) (bs : List Int) (w : World) (r : Rd w .u8 A n bs) (hn : 0 < n) :
    Calls Tryz.prog 48 #[.slice A n c] w fun e w' => e = .returned (.bool (decide (bs[0]?.getD 0 ≤ 12))) ∧ w = w' := by
  obtain ⟨b, off, rfl, hb, hc⟩ := r.row hn
  have c0 := hc 0 hn
  rw [Nat.add_zero] at c0
  obtain ⟨x, hx⟩ : ∃ x, bs[0]?.getD 0 = x := ⟨_, rfl⟩
  rw [hx] at c0 ⊢
  have i1 : (0 : Int) < (n : Int) := by omega
  obtain ⟨q, hq⟩ : ∃ q, decide (x ≤ 12) = q := ⟨_, rfl⟩
  have HQ := Lib.hid hq
  clear hc hx r hq
  go_enter Tryz.func48, Tryz.ntmps48
  go_wp2_with fail
  go_ret
  exact ⟨rfl, rfl⟩
end Go.Proofs.YtgecfcdafbedaaaGreat

namespace Go.Proofs.YtgecfcdafbedaaaGreat
open Go.RowKit
theorem yieldsIf_buildG {P : Program} {ops : Array Oper} {a : Act} {S : World → Prop} {op : Oper} (hw : Region.wanted op (yielded ops a.tmps) = true) (ty : TypeId) (parts : Array (Nat × Operand)) (ho : op.op = .build ty parts) (v : Value)
    (hr : ∀ W, (Instr.build ty (parts.map fun (i, x) => (i, a.eval x))).run P W = .ok v W) : YieldsIf P ops S op v a :=
  .inl ⟨hw, fun w _ => by
    unfold execOp
    simp only [ho, Sem.run_bind, Sem.run_pure, Result.andThen_ok, hr]⟩
theorem yieldsIf_sliceG {P : Program} {ops : Array Oper} {a : Act} {S : World → Prop} {op : Oper} (hw : Region.wanted op (yielded ops a.tmps) = true) (t : TypeId) (x : Operand) (lo hi mx : Option Operand) (ho : op.op = .slice t x lo hi mx) (v : Value) (e : TypeId) (hu : P.underlying t = some (.slice e))
    (hr : ∀ W, (Instr.slice t (a.eval x) (lo.map a.eval) (hi.map a.eval) (mx.map a.eval)).run P W = .ok v W) : YieldsIf P ops S op v a :=
  .inl ⟨hw, fun w _ => by
    have h : (Instr.sliceAt t (a.eval x) (lo.map a.eval) (hi.map a.eval) (mx.map a.eval)).run P w = .ok v w := by
      simp only [Instr.sliceAt, Sem.run_bind, run_underlying hu, Result.andThen_ok]
      exact hr w
    unfold execOp
    simp only [ho, Sem.run_bind, Sem.run_pure, Result.andThen_ok, h]⟩
end Go.Proofs.YtgecfcdafbedaaaGreat
