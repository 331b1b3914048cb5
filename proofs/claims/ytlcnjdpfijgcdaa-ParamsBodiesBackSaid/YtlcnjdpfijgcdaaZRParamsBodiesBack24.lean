/- The walk over params.sum: 32 bytes as a sum. -/
import Derived.Test.YtlcnjdpfijgcdaaZRParamsBodiesBack23
import Derived.Test.YtlcnjdpfijgcdaaZRParamsBodiesBack15
import Derived.Deep.CutRange
namespace Go.Proofs.Ytlcnjdpfijgcdaa
open Go.RowKit
set_option linter.unusedSimpArgs false
set_option linter.unusedVariables false

def zSum : List Value := (List.replicate 32 (0 : Int)).map (Value.int .u8)
theorem alloc_sum (W : World) (o : Oper) (ho : o.op = .alloc 26) (ev : Operand → Value) : (execOp ev o).run Try.prog W = .ok (.value (.pointer (some ⟨W.heap.size, 0, none⟩))) (W.alloc (.cells zSum.toArray 26)) := by
  obtain ⟨d, op, t, p, af, g⟩ := o
  simp only at ho
  subst ho
  kernel_rfl
theorem slice_sum (S : Nat) (W : World) : (Instr.sliceAt 26 (.pointer (some ⟨S, 0, none⟩)) none none none).run Try.prog W = .ok (.slice (some ⟨S, 0, none⟩) 32 32) W := by kernel_rfl
theorem size_sum : (Try.prog.info? 26).map (·.size) = some 32 := by kernel_rfl
theorem one_ints {k : IntKind} {xs : List Int} : ∀ v ∈ xs.map (Value.int k), v.oneCell' = true := by
  intro v hv
  rw [List.mem_map] at hv
  obtain ⟨x, _, rfl⟩ := hv
  rfl
set_option maxRecDepth 100000 in
set_option maxHeartbeats 2000000 in
theorem sum_any (A : Option Addr) (c : Nat) (bs : List Int) (w : World) (r : Rd w .u8 A 32 bs) :
    Calls Try.prog 39 #[.slice A 32 c] w fun e w' => e = .returned (.agg (bs.map (Value.int .u8)).toArray) ∧ Below w.heap.size w w' := by
  obtain ⟨b, off, rfl, hb, hc⟩ := r.row (by omega)
  have HR := Lib.hid r
  have HBL := Lib.hid hb
  have HC := Lib.hid hc
  obtain ⟨S, hS⟩ : ∃ S, w.heap.size = S := ⟨_, rfl⟩
  have HS := Lib.hid hS
  have HSL := Lib.hid (slice_sum S)
  obtain ⟨B, hBB⟩ : ∃ B, bs.map (Value.int .u8) = B := ⟨_, rfl⟩
  have hl : B.length = 32 := by rw [← hBB, List.length_map, r.len]
  have h1 : ∀ v ∈ B, v.oneCell' = true := by rw [← hBB]; exact one_ints
  have hcc : ∀ w1, Below w.heap.size w w1 → ∀ j v, B[j]? = some v → w1.cell? ((⟨b, off, none⟩ : Addr).add j) = some v := fun w1 hB j v hv => by
    have hj : j < 32 := by rw [← hl]; exact (List.getElem?_eq_some_iff.1 hv).1
    have h2 := hc j hj
    rw [← hBB, List.getElem?_map, List.getElem?_eq_getElem (by rw [r.len]; exact hj)] at hv
    rw [List.getElem?_eq_getElem (by rw [r.len]; exact hj)] at h2
    simp only [Option.map_some, Option.some.injEq] at hv
    rw [← hv]
    rw [Option.getD_some] at h2
    have h3 := (hB.cell (p := ⟨b, off + j, none⟩) hb).trans h2
    have e : (⟨b, off, none⟩ : Addr).add j = ⟨b, off + j, none⟩ := by unfold Addr.add; split <;> simp_all
    rw [e]; exact h3
  have HL := Lib.hid hl
  have H1 := Lib.hid h1
  have HCC := Lib.hid hcc
  have HSZ := Lib.hid size_sum
  have hsz : (Try.prog.info? 26).map (·.size) = some B.length := by rw [hl]; exact size_sum
  have HSZ := Lib.hid hsz
  rw [hBB]
  clear r hb hc hS hBB hl h1 hcc hsz
  go_enter Try.func39, Try.ntmps39
  go_upto_region 2 with (first
    | (refine wpList_allocT (o := ⟨some 2, .alloc 26, _, _, _, _⟩) rfl 26 zSum (fun W => alloc_sum W _ rfl _) ?_; intro w1 HK1 HB1; rw [HS.out])
    | (refine wpList_value (o := ⟨some 3, .slice 26 _ _ _ _, _, _, _, _⟩) (v := .slice (some ⟨S, 0, none⟩) 32 32) (w' := w1) rfl (exec_sliceB rfl (HSL.out w1)) ?_)
    | (refine wpList_copy (o := ⟨some 5, _, _, _, _, _⟩) rfl _ _ _ _ rfl 5 Try.underlying38 size_u8 (some ⟨S, 0, none⟩) (some ⟨b, off, none⟩) 32 32 32 c rfl rfl S 0 zSum 26 (by rw [← HS.out]; exact HK1.out) B (by rw [HL.out]; rfl)
        (fun _ => ⟨rfl, _, rfl, HCC.out w1 HB1.out⟩) (by rw [HL.out]; decide) H1.out ?_; intro w2 HK2a hk2; have HK2 : Hid (Blk w2 S 26 B) := Lib.hid (by have := HK2a.out; rwa [splice_whole _ _ (by rw [HL.out]; rfl)] at this); have HB2 := Lib.hid (below_keeps HB1.out hk2 (Nat.le_refl _) (fun i hi => by rw [hi, HS.out]; exact Nat.le_refl _)); clear hk2 HK2a))
  refine wp_region_lit ?_
  refine wpList_loadT (o := ⟨some 6, .load 26 _, _, _, _, _⟩) rfl 26 _ rfl S rfl 26 B _ HK2.out Try.underlying26 rfl HSZ.out ?_
  refine wpList_over (o := ⟨none, .store 26 _ _, _, _, _, _⟩) rfl 26 _ _ rfl S B B 26 rfl rfl HK2.out rfl HSZ.out H1.out ?_; intro w3 HK3 hk3
  have HB3 := Lib.hid (below_keeps HB2.out hk3.out (Nat.le_refl _) (fun i hi => by rw [hi, HS.out]; exact Nat.le_refl _))
  clear hk3
  go_wp2_with fail
  refine bodyPost_ret (results_rowT rfl _ S _ _ _ rfl HK3.out Try.underlying26 rfl HSZ.out) rfl ?_
  exact ⟨rfl, HB3.out⟩
end Go.Proofs.Ytlcnjdpfijgcdaa
