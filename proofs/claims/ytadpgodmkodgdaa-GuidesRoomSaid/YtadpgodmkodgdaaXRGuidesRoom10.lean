/- The walk over SHA-256: what each round adds; The builtin copy as a step of a region that draws its order; results of a cell and a slot. -/
import Derived.Test.YtadpgodmkodgdaaXRGuidesRoom2
import Derived.Test.YtadpgodmkodgdaaXRGuidesRoom6
import Derived.Deep.DeepCutAuto
import Derived.Test.YtadpgodmkodgdaaXRGuidesRoom1
import Derived.Test.YtadpgodmkodgdaaXRGuidesRoom4
import Derived.Deep.MidRow
namespace Go.Proofs.Ytadpgodmkodgdaa
open Go.RowKit
set_option linter.unusedSimpArgs false
set_option linter.unusedVariables false

def addsL : List Int := [1116352408, 1899447441, 3049323471, 3921009573, 961987163, 1508970993, 2453635748, 2870763221, 3624381080, 310598401, 607225278, 1426881987, 1925078388, 2162078206, 2614888103, 3248222580, 3835390401, 4022224774, 264347078, 604807628, 770255983, 1249150122, 1555081692, 1996064986, 2554220882, 2821834349, 2952996808, 3210313671, 3336571891, 3584528711, 113926993, 338241895, 666307205, 773529912, 1294757372, 1396182291, 1695183700, 1986661051, 2177026350, 2456956037, 2730485921, 2820302411, 3259730800, 3345764771, 3516065817, 3600352804, 4094571909, 275423344, 430227734, 506948616, 659060556, 883997877, 958139571, 1322822218, 1537002063, 1747873779, 1955562222, 2024104815, 2227730452, 2361852424, 2428436474, 2756734187, 3204031479, 3329325298]
def zADDS : List Value := (List.replicate 64 (0 : Int)).map (Value.int .u32)
theorem alloc_adds (W : World) (o : Oper) (ho : o.op = .alloc 146) (ev : Operand → Value) : (execOp ev o).run Try.prog W = .ok (.value (.pointer (some ⟨W.heap.size, 0, none⟩))) (W.alloc (.cells zADDS.toArray 146)) := by
  obtain ⟨d, op, t, p, af, g⟩ := o
  simp only at ho
  subst ho
  kernel_rfl
theorem size_adds : (Try.prog.info? 146).map (·.size) = some 64 := by kernel_rfl
theorem adds_u32 : ∀ x ∈ addsL, U32 x := by unfold U32; decide
set_option maxRecDepth 100000 in
set_option maxHeartbeats 4000000 in
theorem adds_any (w : World) : Calls Try.prog 77 #[] w fun e w' => e = .returned (.agg (addsL.map (Value.int .u32)).toArray) ∧ Below w.heap.size w w' := by
  obtain ⟨S, hS⟩ : ∃ S, w.heap.size = S := ⟨_, rfl⟩
  have HS := Lib.hid hS
  have HAL := Lib.hid alloc_adds
  have HL : Hid ((addsL.map (Value.int .u32)).length = zADDS.length) := Lib.hid (by simp [zADDS, addsL])
  have HSZ : Hid ((Try.prog.info? 146).map (·.size) = some (addsL.map (Value.int .u32)).length) := Lib.hid (by rw [size_adds]; simp [addsL])
  have HONE : Hid (∀ v ∈ addsL.map (Value.int .u32), v.oneCell' = true) := Lib.hid (fun v hv => by obtain ⟨x, _, rfl⟩ := List.mem_map.1 hv; rfl)
  have HU := Lib.hid Try.underlying146
  generalize zADDS = Z at HAL HL
  clear hS
  go_enter Try.func77, Try.ntmps77
  go_upto_region 0 with fail
  refine wp_region_lit ?_
  refine wpList_allocT (o := ⟨some 0, .alloc 146, _, _, _, _⟩) rfl 146 Z (fun W => HAL.out W _ rfl _) ?_; intro w1 HK1 HB1
  rw [HS.out] at HK1 ⊢
  go_upto_region 1 with fail
  refine wp_region_lit ?_
  refine wpList_want (o := ⟨some 1, _, _, _, _, _⟩) (v := .agg (addsL.map (Value.int .u32)).toArray) (w' := w1) (by rfl) (by kernel_rfl) ?_
  generalize hV : addsL.map (Value.int .u32) = V at HL HSZ HONE ⊢
  refine wpList_over (o := ⟨none, .store 146 (.tmp 0) _, _, _, _, _⟩) rfl 146 _ _ rfl S V Z 146 rfl rfl HK1.out HL.out HSZ.out HONE.out ?_; intro w2 HK2 hk2
  have HB2 := Lib.hid (below_keeps HB1.out hk2.out (Nat.le_refl _) (fun i hi => by rw [hi, HS.out]; exact Nat.le_refl _))
  go_wp2_with fail
  refine bodyPost_ret (results_rowT rfl _ S _ _ _ rfl HK2.out HU.out rfl HSZ.out) rfl ?_
  exact ⟨by rw [hV], HB2.out⟩
end Go.Proofs.Ytadpgodmkodgdaa

namespace Go.Proofs.Ytadpgodmkodgdaa
open Go.RowKit
set_option linter.unusedSimpArgs false
set_option linter.unusedVariables false

/-- The builtin copy as a step of a region that draws its order. -/
theorem step_copy {P : Program} {ops : Array Oper} {o : Oper} {a : Act} {w : World} {K : Act → World → Prop} {Q : Exit → Act → World → Prop} {E : Prop} (hgd : o.guard = none) (d s : Operand) (dT sT : TypeId)
    (ho : o.op = .call { callee := .builtin .copy, args := #[d, s], argTypes := #[dT, sT] }) (elem : TypeId) (hu : P.underlying dT = some (.slice elem)) (hsz : (P.info? elem).map (·.size) = some 1)
    (dp sp : Option Addr) (dLen dCap sLen sCap : Nat) (hd : a.eval d = .slice dp dLen dCap) (hs : a.eval s = .slice sp sLen sCap)
    (g off : Nat) (cur : List Value) (t : TypeId) (hg : Blk w g t cur) (cs : List Value) (hn : cs.length = Nat.min sLen dLen)
    (hpos : 0 < cs.length → dp = some ⟨g, off, none⟩ ∧ ∃ ad, sp = some ad ∧ ∀ j v, cs[j]? = some v → w.cell? (ad.add j) = some v)
    (hfit : off + cs.length ≤ cur.length) (h1 : ∀ v ∈ cs, v.oneCell' = true)
    (h : ∀ w', Hid (Blk w' g t (splice cur off cs)) → Keeps (· = g) w w' → K (a.put o.dst (goInt cs.length)) w') :
    if Region.wanted o (yielded ops a.tmps) = true then Oper.wp P o a w K Q else E := by
  have hw : Region.wanted o (yielded ops a.tmps) = true := by simp [Region.wanted, hgd]
  rw [if_pos hw]
  obtain ⟨w', hrun, r1, r2⟩ := run_copy_blk (P := P) w dT sT o.type elem hu hsz dp sp dLen dCap sLen sCap g off cur t hg cs hn hpos hfit h1
  unfold Oper.wp
  simp [execOp, ho, resolve, invoke, builtin, hd, hs, hrun, Result.andThen]
  exact h w' r1 r2
/-- To pick an operation, fast: 'with_reducible refine wpList_isK (o := ..) ?_'. -/
theorem wpList_isK {P : Program} {ops : Array Oper} {rest : List Oper} {o : Oper} {a : Act} {w : World} {Q : Exit → Act → World → Prop} (h : wpList P ops Q (o :: rest) a w) : wpList P ops Q (o :: rest) a w := h
theorem wpList_readK {P : Program} {ops : Array Oper} {rest : List Oper} {o : Oper} {a : Act} {w : World} {Q : Exit → Act → World → Prop} {v : Value} (hw : Region.wanted o (yielded ops a.tmps) = true) (hr : (execOp a.eval o).run P w = .ok (.value v) w) (h : wpList P ops Q rest (a.put o.dst v) w) : wpList P ops Q (o :: rest) a w := by
  rw [wpList, if_pos hw]
  exact .inl (by unfold Oper.wp; rw [hr]; exact h)
/-- A value by a law, as a step of a region that draws its order. -/
theorem step_val {P : Program} {ops : Array Oper} {o : Oper} {a : Act} {w w' : World} {Q : Exit → Act → World → Prop} {K : Act → World → Prop} {E : Prop} {v : Value} (hgd : o.guard = none) (hr : (execOp a.eval o).run P w = .ok (.value v) w')
    (h : K (a.put o.dst v) w') : if Region.wanted o (yielded ops a.tmps) = true then Oper.wp P o a w K Q else E := by
  have hw : Region.wanted o (yielded ops a.tmps) = true := by simp [Region.wanted, hgd]
  rw [if_pos hw]
  unfold Oper.wp
  rw [hr]
  exact h
end Go.Proofs.Ytadpgodmkodgdaa
