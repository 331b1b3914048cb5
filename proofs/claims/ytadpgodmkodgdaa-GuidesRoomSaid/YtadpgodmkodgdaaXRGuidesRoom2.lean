/- The walks over SHA-256: a number's bits turned; several such taken against each other; The walk over nums.row: bytes, and words behind them, each in so many bytes. -/
import Derived.Test.YtadpgodmkodgdaaXRGuidesRoom1
import Derived.RangeFuncNested
import Derived.RangeFuncBound
import Derived.RangeFuncCalls
import Derived.RangeFuncLeaves
import Derived.Shelf.Abstract
import Derived.Shelf.RegionOpen
import Derived.OwnWalkIn
import Derived.TacticsInMore
import Derived.LoopNIn
import Derived.LoopIn
import Derived.RangeFuncWrites
import Derived.Deep.OwnRows
namespace Go.Proofs.Ytadpgodmkodgdaa
open Go.RowKit
set_option linter.unusedSimpArgs false
set_option linter.unusedVariables false

def U32 (x : Int) : Prop := 0 ≤ x ∧ x ≤ 4294967295
theorem rot_count : ∀ k : Fin 32, 0 < k.val → bits .and .u64 (IntKind.u64.wrap (-(k.val : Int))) 31 = ((32 - k.val : Nat) : Int) := by decide
def rotX (x : Int) (k : Nat) : Int := bits .or .u32 (x * 2 ^ (32 - k) % 4294967296) (x / 2 ^ k)
theorem bits_u32 (op : BinOp) (x y : Int) : U32 (bits op .u32 x y) := by
  unfold bits U32
  dsimp only
  generalize (match op with
    | .and => BitVec.ofInt IntKind.u32.bits x &&& BitVec.ofInt IntKind.u32.bits y
    | .or => BitVec.ofInt IntKind.u32.bits x ||| BitVec.ofInt IntKind.u32.bits y
    | .xor => BitVec.ofInt IntKind.u32.bits x ^^^ BitVec.ofInt IntKind.u32.bits y
    | _ => BitVec.ofInt IntKind.u32.bits x &&& ~~~BitVec.ofInt IntKind.u32.bits y).toNat = k
  simp [IntKind.wrap, IntKind.bits, IntKind.signed]
  omega
theorem rotX_u32 (x : Int) (k : Nat) : U32 (rotX x k) := bits_u32 ..
set_option maxRecDepth 100000 in
set_option maxHeartbeats 4000000 in
theorem rot_any (x : Int) (k : Nat) (w : World) (h0 : U32 x) (h1 : 0 < k) (h2 : k < 32) :
    Calls Try.prog 81 #[.int .u32 x, .int .i64 (-(k : Int))] w fun e w' => e = .returned (.int .u32 (rotX x k)) ∧ w' = w := by
  have c1 := rot_count ⟨k, h2⟩ h1
  have h3 := h0.1
  have h4 := h0.2
  clear h0
  obtain ⟨m, hm⟩ : ∃ m, 32 - k = m := ⟨_, rfl⟩
  simp only [hm] at c1
  have c2 : IntKind.u64.wrap (32 - (m : Int)) = (k : Int) := by
    rw [← hm, show ((32 - k : Nat) : Int) = 32 - (k : Int) by omega, show (32 : Int) - (32 - (k : Int)) = (k : Int) by omega]
    exact IntWalk.u64_in _ (by omega)
  have HM := Lib.hid hm
  go_enter Try.func81, Try.ntmps81
  go_wp2_with fail
  go_ret
  exact ⟨by rw [rotX, HM.out]; rfl, rfl⟩
def downX (x : Int) (ks : List Nat) : Int := ks.foldl (fun o k => bits .xor .u32 o (rotX x k)) 0
theorem downX_next (x : Int) (ks : List Nat) (k j : Nat) (h : ks[j]? = some k) : downX x (ks.take (j + 1)) = bits .xor .u32 (downX x (ks.take j)) (rotX x k) := by
  rw [List.take_add_one, h]
  simp [downX, List.foldl_append]
theorem downX_u32 (x : Int) (ks : List Nat) : U32 (downX x ks) := by
  unfold downX
  generalize h : (0 : Int) = o
  have ho : U32 o := by subst h; exact ⟨by omega, by omega⟩
  clear h
  induction ks generalizing o with
  | nil => exact ho
  | cons k ks ih => exact ih _ (bits_u32 ..)
set_option maxRecDepth 100000 in
set_option maxHeartbeats 4000000 in
theorem down_any (x : Int) (A : Option Addr) (n c : Nat) (ks : List Nat) (w : World) (h0 : U32 x) (r : Rd w .i64 A n (ks.map fun k : Nat => (k : Int))) (hks : ∀ k ∈ ks, 0 < k ∧ k < 32) :
    Calls Try.prog 78 #[.int .u32 x, .slice A n c] w fun e w' => e = .returned (.int .u32 (downX x ks)) ∧ Drawn w w' := by
  have hl := r.len
  have hb := r.big
  rw [List.length_map] at hl
  have HX := Lib.hid h0
  have HKS := Lib.hid hks
  have HR := Lib.hid r
  have h3 := h0.1
  have h4 := h0.2
  clear h0 hks r
  go_enter Try.func78, Try.ntmps78
  go_wp2_with fail
  go_loopw [5, 10] (fun o i wr => ∃ j : Nat, j ≤ n ∧ i = .int .i64 (j : Int) ∧ o = .int .u32 (downX x (ks.take j)) ∧ Drawn w wr) (fun _ i _ => n - (intOf i).toNat)
  case atStart => exact ⟨0, Nat.zero_le _, rfl, rfl, Drawn.refl _⟩
  case round =>
    obtain ⟨j, hj, rfl, rfl, q, rfl⟩ := hrel
    by_cases hlt : j < n
    · obtain ⟨a, oa, rfl, _, ha⟩ := HR.out.row (by omega)
      have hca := ha j hlt
      obtain ⟨k, hk⟩ : ∃ k, ks[j]? = some k := ⟨ks[j], List.getElem?_eq_getElem (by omega)⟩
      rw [List.getElem?_map, hk] at hca
      have hm : k ∈ ks := List.mem_of_getElem? hk
      have HK := Lib.hid hk
      obtain ⟨hk1, hk2⟩ := HKS.out k hm
      have i0 : (0 : Int) ≤ (j : Int) := by omega
      have i1 : (j : Int) < (n : Int) := by omega
      have hneg : IntKind.i64.wrap (-(k : Int)) = -(k : Int) := IntWalk.i64_in _ (by omega)
      obtain ⟨d, hd⟩ : ∃ d, downX x (ks.take j) = d := ⟨_, rfl⟩
      rw [hd]
      have HD := Lib.hid hd
      have hca' : (w.drewN q).cell? ⟨a, oa + j, none⟩ = some (.int .i64 (k : Int)) := hca
      clear ha hca hk hm hd
      go_wp2_with fail
      refine (rot_any x k _ HX.out hk1 hk2).mono ?_; rintro e wr ⟨rfl, rfl⟩
      go_wp2_with fail
      go_roundw
      case rel => exact ⟨j + 1, by omega, by go_num, by rw [downX_next x ks k j HK.out, HD.out], _, rfl⟩
      case measure => simp [intOf]; omega
    · have hjn : j = n := by omega
      subst hjn
      go_wp2_with fail
      go_ret
      exact ⟨by rw [List.take_of_length_le (by omega)]; rfl, _, rfl⟩
end Go.Proofs.Ytadpgodmkodgdaa

namespace Go.Proofs.Ytadpgodmkodgdaa
open Go.RowKit Go.Shelf
set_option linter.unusedSimpArgs false
set_option linter.unusedVariables false
attribute [local go_sem] Oper.semAt_some

/-- What has come when k rounds are over. -/
def upto {α : Type} (f : Nat → α) (k : Nat) : List α := (List.range k).map f
theorem upto_succ {α : Type} (f : Nat → α) (k : Nat) : upto f (k + 1) = upto f k ++ [f k] := by simp [upto, List.range_succ]
theorem upto_length {α : Type} (f : Nat → α) (k : Nat) : (upto f k).length = k := by simp [upto]
/-- Blocks in S are as they were. -/
def Same (S : Nat → Prop) (W W' : World) : Prop := W.heap.size ≤ W'.heap.size ∧ ∀ k, S k → W'.heap[k]? = W.heap[k]?
theorem same_t {S : Nat → Prop} {A B C : World} (h : Same S A B) (k : Same S B C) : Same S A C := ⟨Nat.le_trans h.1 k.1, fun i hi => (k.2 i hi).trans (h.2 i hi)⟩
theorem same_b {S : Nat → Prop} {w : World} (hS : ∀ k, S k → k < w.heap.size) (W : World) (l : Nat) (o o' : Obj) (hl : w.heap.size ≤ l) (_ : W.heap[l]? = some o) (_ : o.isCells = false) (_ : o.isWalk = false) : Same S W (W.putObj l o') :=
  ⟨by simp, fun k hk => World.putObj_heap_other (by have := hS k hk; omega)⟩
theorem Same.cell {S : Nat → Prop} {W W' : World} (h : Same S W W') {p : Addr} (hp : S p.block) : W'.cell? p = W.cell? p := World.cell?_of_block (h.2 _ hp)

/-- A word. -/
abbrev W64 := { x : Int // 0 ≤ x ∧ x ≤ 18446744073709551615 }
def w64z : W64 := ⟨0, by omega, by omega⟩
def at64 (zs : List W64) (j : Nat) : W64 := zs[j]?.getD w64z
/-- The words that Backward yields, the last one first. -/
def downAt (zs : List W64) (k : Nat) : Int × W64 := ((zs.length : Int) - 1 - k, at64 zs (zs.length - 1 - k))

set_option maxRecDepth 100000 in
set_option maxHeartbeats 2000000 in
theorem back1_in (F : Fence) (n : Nat) (hf : F.fn 66) (hro : F.round = none) (hn : 1 ≤ n) (l Bs b : Nat) (len cap : Nat) (zs : List W64) (hz : zs.length = len) (hlen : len ≤ 1000000) (S : Nat → Prop) (hSs : S Bs) (hSb : S b)
    (J Jx : List (Int × W64) → World → Prop)
    (hY : ∀ pre x W, J pre W → pre.length < len → YieldAt F (n - 1) Try.prog l #[.int .i64 x.1, .int .u64 x.2.1] W fun e W' =>
      (e = .returned (.bool true) ∧ J (pre ++ [x]) W' ∧ Same S W W') ∨ (e = .returned (.bool false) ∧ Jx (pre ++ [x]) W'))
    (W : World) (hBs : W.cell? ⟨Bs, 0, none⟩ = some (.slice (some ⟨b, 0, none⟩) len cap)) (hc : ∀ j, j < len → W.cell? ⟨b, j, none⟩ = some (.int .u64 (at64 zs j).1)) (h0 : J [] W) :
    CallsIn F n Try.prog 66 #[.func (.yield l) #[] #[], .pointer (some ⟨Bs, 0, none⟩)] W fun e W' => (∃ v, e = .returned v) ∧
      ((∃ ys, ys = upto (downAt zs) len ∧ J ys W') ∨ (∃ pre, True ∧ Jx pre W')) := by
  refine callsIn_of_wp Try.func66 rfl hf ?_ hro
  simp only [Try.ntmps66, List.size_toArray, List.length_cons, List.length_nil, Nat.reduceAdd, Nat.reduceSub, Array.replicate_succ, Array.replicate_zero, List.push_toArray, List.append_toArray, List.nil_append, List.cons_append]
  gi_wp2
  gi_loopw [3] (fun i wr => ∃ k : Nat, k ≤ len ∧ i = .int .i64 ((len : Int) - 1 - k) ∧ J (upto (downAt zs) k) wr ∧ Same S W wr)
    (fun i _ => (intOf i + 1).toNat)
  case atStart => exact ⟨0, Nat.zero_le _, by simp, h0, Nat.le_refl _, fun _ _ => rfl⟩
  case round =>
    obtain ⟨k, hk, rfl, hJs, hnx⟩ := hrel
    have hBx := (hnx.cell (p := ⟨Bs, 0, none⟩) hSs).trans hBs
    by_cases hlt : k < len
    · have hcx := (hnx.cell (p := ⟨b, len - 1 - k, none⟩) hSb).trans (hc (len - 1 - k) (by omega))
      have he : downAt zs k = ((len : Int) - 1 - k, at64 zs (len - 1 - k)) := by rw [downAt, hz]
      obtain ⟨fn, tmps, assign, body, hy, hR⟩ := hY _ (downAt zs k) wr hJs (by rw [upto_length]; exact hlt)
      rw [he] at hy
      dsimp only at hy
      generalize at64 zs (len - 1 - k) = x at *
      have hidx : ((len : Int) - 1 - k).toNat = len - 1 - k := by omega
      have hg0 : (0 : Int) ≤ (len : Int) - 1 - k := by omega
      have hg1 : (len : Int) - 1 - k < len := by omega
      clear he
      gi_wp2
      refine hR.mono ?_
      rintro e W3 (⟨rfl, hJ3, hk3⟩ | ⟨rfl, hJx3⟩)
      · gi_wp2
        go_roundw
        case rel =>
          refine ⟨k + 1, by omega, congrArg _ (by omega), by rw [upto_succ]; exact hJ3, same_t hnx hk3⟩
        case measure => simp [intOf]; omega
      · gi_wp2
        refine bodyPost_ret (results_none rfl _ _ _) rfl ?_
        exact ⟨⟨_, rfl⟩, .inr ⟨_, trivial, hJx3⟩⟩
    · obtain rfl : k = len := by omega
      gi_wp2
      go_end0
      exact ⟨⟨_, rfl⟩, .inl ⟨_, rfl, hJs⟩⟩

set_option maxHeartbeats 1000000 in
theorem back_in (F : Fence) (n : Nat) (hf : F.fn 49) (hro : F.round = none) (a : Option Addr) (len cap : Nat) (w : World) :
    CallsIn F n Try.prog 49 #[.slice a len cap] w fun e w' => e = .returned (.func (.func 66) #[] #[.pointer (some ⟨w.heap.size, 0, none⟩)]) ∧ w' = w.alloc (.cells #[.slice a len cap] 105) := by
  refine callsIn_of_wp Try.func49 rfl hf ?_ hro
  simp only [Try.ntmps49, List.size_toArray, List.length_cons, List.length_nil, Nat.reduceAdd, Nat.reduceSub, Array.replicate_succ, Array.replicate_zero, List.push_toArray, List.append_toArray, List.nil_append, List.cons_append]
  gi_wp2
  go_ret
  exact ⟨rfl, rfl⟩
theorem back_stops (F : Fence) (n : Nat) (hf : F.fn 66) (hro : F.round = none) (hn : 1 ≤ n) (Bs b len cap : Nat) (zs : List W64) (hz : zs.length = len) (hlen : len ≤ 1000000) (S : Nat → Prop) (hSs : S Bs) (hSb : S b) (w : World) (hBs : Bs < w.heap.size) (hb : b < w.heap.size)
    (hc0 : w.cell? ⟨Bs, 0, none⟩ = some (.slice (some ⟨b, 0, none⟩) len cap)) (hc : ∀ j, j < len → w.cell? ⟨b, j, none⟩ = some (.int .u64 (at64 zs j).1)) :
    SeqStopsK F n Try.prog 66 #[.pointer (some ⟨Bs, 0, none⟩)] (fun x : Int × W64 => #[Value.int .i64 x.1, Value.int .u64 x.2.1]) (Same S) (fun ys => ys = upto (downAt zs) len) (fun _ => True) len w := fun l J Jx W hW _ _ hY h0 => by
  exact back1_in F n hf hro hn l Bs b len cap zs hz hlen S hSs hSb J Jx hY W ((hW.cell (p := ⟨Bs, 0, none⟩) hBs).trans hc0) (fun j hj => (hW.cell (p := ⟨b, j, none⟩) hb).trans (hc j hj)) h0

/-- The words' bytes. -/
def flat (ws : List Int) (each : Nat) : List Int := ws.flatMap (be · each)

theorem blk_own {W W' : World} {row : Option Nat} {g : Nat} {t : TypeId} {cs : List Value} (h : Blk W g t cs) (hg : W.grownBy W' row) (hr : ∀ r, row = some r → ∃ o : Obj, W.heap[r]? = some o ∧ o.isCells = false) : Blk W' g t cs :=
  (hg.block g h.lt (fun e => by
    obtain ⟨o, ho, hc⟩ := hr g e.symm
    unfold Blk at h
    rw [h] at ho
    injection ho with ho
    subst ho
    cases hc)).trans h
/-- What holds while row works: B is the block of 'each', behind it the new row, its header, and the place. -/
structure RowAt (w0 : World) (B N each : Nat) (at_ : Nat) (tail : List Int) (W : World) : Prop where
  b0 : Blk W B 3 [.int .i64 each]
  b1 : Blk W (B + 1) 5 ((List.replicate at_ 0 ++ tail).map (Value.int .u8))
  b2 : Blk W (B + 1 + 1) 49 [.slice (some ⟨B + 1, 0, none⟩) N N]
  b3 : Blk W (B + 1 + 1 + 1) 3 [.int .i64 at_]
  below : Below w0.heap.size w0 W
theorem rowAt_own {w0 : World} {B N each at_ : Nat} {tail : List Int} {D : Nat} (hD : w0.heap.size ≤ D) {W W' : World} {row : Option Nat} (h : RowAt w0 B N each at_ tail W) (hg : W.grownBy W' row) (hr : ∀ r, row = some r → D ≤ r ∧ ∃ o : Obj, W.heap[r]? = some o ∧ o.isCells = false) : RowAt w0 B N each at_ tail W' :=
  ⟨blk_own h.b0 hg (fun r e => (hr r e).2), blk_own h.b1 hg (fun r e => (hr r e).2), blk_own h.b2 hg (fun r e => (hr r e).2), blk_own h.b3 hg (fun r e => (hr r e).2), h.below.grown hg h.below.size (fun k e => Nat.le_trans hD (hr k e).1)⟩
/-- What came, in bytes. -/
def cameBytes (pre : List (Int × W64)) (each : Nat) : List Int := flat (pre.reverse.map (·.2.1)) each
theorem cameBytes_snoc (pre : List (Int × W64)) (x : Int × W64) (each : Nat) : cameBytes (pre ++ [x]) each = be x.2.1 each ++ cameBytes pre each := by
  simp [cameBytes, flat]
theorem cameBytes_all (zs : List W64) (each : Nat) : cameBytes (upto (downAt zs) zs.length) each = flat (zs.map (·.1)) each := by
  have : (upto (downAt zs) zs.length).reverse.map (·.2.1) = zs.map (·.1) := by
    apply List.ext_getElem
    · simp [upto]
    · intro i h1 h2
      simp [upto] at h1
      simp [upto, downAt, at64, List.getElem_reverse, show zs.length - 1 - (zs.length - 1 - i) = i by omega, h1]
  rw [cameBytes, this]
theorem made_rep (z : Value) (n : Nat) : madeCells #[z] n = (List.replicate n z).toArray := by
  unfold madeCells
  apply Array.ext
  · simp
  · intro i h1 h2; simp [Nat.mod_one]
theorem rep_set (a : Nat) (t : List Int) (v : Int) : (List.replicate (a + 1) 0 ++ t).set a v = List.replicate a 0 ++ v :: t := by
  rw [List.replicate_succ', List.append_assoc, List.set_append]
  simp

theorem flat_length (l : List Int) (each : Nat) : (flat l each).length = each * l.length := by
  unfold flat
  induction l with
  | nil => simp
  | cons x l ih => simp [ih, be_length, Nat.mul_add, Nat.add_comm]
/-- A call hands back a new slice of such bytes, just as long as it has room for; what lay there lies as it did. -/
def Made (w : World) (bytes : List Int) (e : Ending) (w' : World) : Prop :=
  ∃ h, w.heap.size ≤ h ∧ e = .returned (.slice (some ⟨h, 0, none⟩) bytes.length bytes.length) ∧ Blk w' h 5 (bytes.map (Value.int .u8)) ∧ Below w.heap.size w w'
theorem size_u8 : (Try.prog.info? 5).map (·.size) = some 1 := by kernel_rfl
set_option maxRecDepth 100000 in
set_option maxHeartbeats 2000000 in
theorem row_any (A0 : Option Addr) (n0 c0 : Nat) (bs : List Int) (each : Nat) (g m cm : Nat) (zs : List W64) (w : World) (r0 : Rd w .u8 A0 n0 bs) (l0 : n0 ≤ c0) (he : each ≤ 8) (hz : zs.length = m) (hm : m ≤ 4)
    (hg : g < w.heap.size) (hc : ∀ j, j < m → w.cell? ⟨g, j, none⟩ = some (.int .u64 (at64 zs j).1)) (ws : List Int) (hws : zs.map (·.1) = ws) :
    Calls Try.prog 39 #[.slice A0 n0 c0, .int .i64 each, .slice (some ⟨g, 0, none⟩) m cm] w (Made w (bs ++ flat ws each)) := by
  have hflen : (bs ++ flat ws each).length = n0 + each * m := by
    rw [List.length_append, r0.len, flat_length, ← hws, List.length_map, hz]
  have HFLEN := Lib.hid hflen
  have HWS := Lib.hid hws
  clear hflen hws
  refine (callsIn_wide (n := 3)).1 ?_
  have hbig := r0.big
  have h1 : 1 ≤ 3 := by omega
  have hem : each * m ≤ 32 := Nat.le_trans (Nat.mul_le_mul he hm) (by omega)
  obtain ⟨p, hp⟩ : ∃ p, each * m = p := ⟨_, rfl⟩
  have hP : (each : Int) * (m : Int) = (p : Int) := by rw [← hp]; simp
  rw [hp] at hem
  have HP2 := Lib.hid hp
  have hmk : ∀ W : World, (Instr.makeSlice 49 (.int .i64 ((n0 : Int) + (p : Int))) (.int .i64 ((n0 : Int) + (p : Int)))).run Try.prog W = .ok (.slice (some ⟨W.heap.size, 0, none⟩) (n0 + p) (n0 + p)) (W.alloc (.cells (madeCells #[.int .u8 0] (n0 + p)) 5)) := by
    intro W
    rw [show (n0 : Int) + (p : Int) = ((n0 + p : Nat) : Int) by simp]
    exact run_make_row' 49 5 (.int .u8 0) 1 Try.underlying49 (by kernel_rfl) rfl .i64 .i64 (n0 + p) (by omega) (by omega) W
  refine callsIn_of_wp_marks Try.func39 rfl trivial ?_ rfl
  simp only [Try.ntmps39, List.size_toArray, List.length_cons, List.length_nil, Nat.reduceAdd, Nat.reduceSub, Array.replicate_succ, Array.replicate_zero, List.push_toArray, List.append_toArray, List.nil_append, List.cons_append]
  gi_wp2_with (refine ⟨trivial, ?_⟩; gi_at_call 49; refine (back_in Fence.wide _ trivial rfl _ _ _ _).mono ?_; rintro e w' ⟨rfl, rfl⟩)
  have hmade : madeCells #[.int .u8 0] (n0 + p) = ((List.replicate (n0 + p) 0 ++ ([] : List Int)).map (Value.int .u8)).toArray := by
    rw [made_rep]; simp
  rw [hmade]
  have k0 : Blk (w.alloc (.cells #[.int .i64 each] 3)) w.heap.size 3 [.int .i64 each] := Blk.new w 3 [.int .i64 each]
  have k1 := Blk.new (w.alloc (.cells #[.int .i64 each] 3)) 5 ((List.replicate (n0 + p) 0 ++ ([] : List Int)).map (Value.int .u8))
  have k2 := Blk.new ((w.alloc (.cells #[.int .i64 each] 3)).alloc (.cells ((List.replicate (n0 + p) 0 ++ ([] : List Int)).map (Value.int .u8)).toArray 5)) 49 [.slice (some ⟨w.heap.size + 1, 0, none⟩) (n0 + p) (n0 + p)]
  have k3 := Blk.new (((w.alloc (.cells #[.int .i64 each] 3)).alloc (.cells ((List.replicate (n0 + p) 0 ++ ([] : List Int)).map (Value.int .u8)).toArray 5)).alloc (.cells #[.slice (some ⟨w.heap.size + 1, 0, none⟩) (n0 + p) (n0 + p)] 49)) 3 [.int .i64 ((n0 : Int) + (p : Int))]
  have k4 := Blk.new ((((w.alloc (.cells #[.int .i64 each] 3)).alloc (.cells ((List.replicate (n0 + p) 0 ++ ([] : List Int)).map (Value.int .u8)).toArray 5)).alloc (.cells #[.slice (some ⟨w.heap.size + 1, 0, none⟩) (n0 + p) (n0 + p)] 49)).alloc (.cells #[.int .i64 ((n0 : Int) + (p : Int))] 3)) 105 [.slice (some ⟨g, 0, none⟩) m cm]
  simp only [World.size_alloc] at k1 k2 k3 k4
  have hs0 : RowAt w w.heap.size (n0 + p) each (n0 + p) [] (((((w.alloc (.cells #[.int .i64 each] 3)).alloc (.cells ((List.replicate (n0 + p) 0 ++ ([] : List Int)).map (Value.int .u8)).toArray 5)).alloc (.cells #[.slice (some ⟨w.heap.size + 1, 0, none⟩) (n0 + p) (n0 + p)] 49)).alloc (.cells #[.int .i64 ((n0 : Int) + (p : Int))] 3)).alloc (.cells #[.slice (some ⟨g, 0, none⟩) m cm] 105)) :=
    ⟨(((k0.alloc _).alloc _).alloc _).alloc _, ((k1.alloc _).alloc _).alloc _, (k2.alloc _).alloc _, by simpa using k3.alloc _,
      ((((((Below.refl _ _).alloc (Nat.le_refl _) _).alloc (by simp) _).alloc (by simp; omega) _).alloc (by simp; omega) _).alloc (by simp; omega) _)⟩
  have hsz : (((((w.alloc (.cells #[.int .i64 each] 3)).alloc (.cells ((List.replicate (n0 + p) 0 ++ ([] : List Int)).map (Value.int .u8)).toArray 5)).alloc (.cells #[.slice (some ⟨w.heap.size + 1, 0, none⟩) (n0 + p) (n0 + p)] 49)).alloc (.cells #[.int .i64 ((n0 : Int) + (p : Int))] 3)).alloc (.cells #[.slice (some ⟨g, 0, none⟩) m cm] 105)).heap.size = w.heap.size + 1 + 1 + 1 + 1 + 1 := by simp
  change Code.wpIn _ _ _ _ _ _ (((((w.alloc (.cells #[.int .i64 each] 3)).alloc (.cells ((List.replicate (n0 + p) 0 ++ ([] : List Int)).map (Value.int .u8)).toArray 5)).alloc (.cells #[.slice (some ⟨w.heap.size + 1, 0, none⟩) (n0 + p) (n0 + p)] 49)).alloc (.cells #[.int .i64 ((n0 : Int) + (p : Int))] 3)).alloc (.cells #[.slice (some ⟨g, 0, none⟩) m cm] 105))
  generalize (((((w.alloc (.cells #[.int .i64 each] 3)).alloc (.cells ((List.replicate (n0 + p) 0 ++ ([] : List Int)).map (Value.int .u8)).toArray 5)).alloc (.cells #[.slice (some ⟨w.heap.size + 1, 0, none⟩) (n0 + p) (n0 + p)] 49)).alloc (.cells #[.int .i64 ((n0 : Int) + (p : Int))] 3)).alloc (.cells #[.slice (some ⟨g, 0, none⟩) m cm] 105)) = W5 at *
  have hB5 := hs0.below
  have hc5 : ∀ j, j < m → W5.cell? ⟨g, j, none⟩ = some (.int .u64 (at64 zs j).1) := fun j hj => (hB5.cell (p := ⟨g, j, none⟩) hg).trans (hc j hj)
  have k4' : W5.cell? ⟨w.heap.size + 1 + 1 + 1 + 1, 0, none⟩ = some (.slice (some ⟨g, 0, none⟩) m cm) := k4.cell 0
  clear k0 k1 k2 k3 k4 hmk hmade
  obtain ⟨B, hB⟩ : ∃ B, w.heap.size = B := ⟨_, rfl⟩
  rw [hB] at hs0 hsz hg k4' ⊢
  have hBw : w.heap.size ≤ B := by omega
  have hBw2 : B ≤ w.heap.size := by omega
  clear hB
  refine wpIn_rangeFunc_ownG rfl h1 (gf := 66) (lb := #[.pointer (some ⟨B + 1 + 1 + 1 + 1, 0, none⟩)]) rfl trivial (enters_of Try.func66 (by kernel_rfl) rfl)
    (back_stops Fence.wide _ trivial rfl (by omega) (B + 1 + 1 + 1 + 1) g m cm zs hz (by omega) (fun k => k = B + 1 + 1 + 1 + 1 ∨ k = g) (.inl rfl) (.inr rfl) W5 (by omega) (by omega) k4' hc5)
    same_t (same_b (by intro k hk; omega)) (Below.refl _ _) (fun _ => rfl)
    (fun pre W => pre.length ≤ m ∧ RowAt w B (n0 + p) each (n0 + each * (m - pre.length)) (cameBytes pre each) W)
    (fun _ _ _ => False)
    (fun s A B' row hs hg' hr => ⟨hs.1, rowAt_own (by omega) hs.2 hg' hr⟩)
    (fun _ _ _ _ _ hs _ _ => hs)
    ⟨Nat.zero_le _, by simpa [hp, cameBytes, flat] using hs0⟩
    (fun x => { tmps := #[.slice A0 n0 c0, .int .i64 each, .slice (some ⟨g, 0, none⟩) m cm, undef, .pointer (some ⟨B, 0, none⟩), undef, .slice none 0 0, .pointer (some ⟨B + 1 + 1, 0, none⟩), .pointer (some ⟨B + 1 + 1 + 1, 0, none⟩), undef, .int .u64 x.2.1, .slice A0 n0 c0, .int .i64 n0, .int .i64 each, .slice (some ⟨g, 0, none⟩) m cm, .int .i64 m, .int .i64 p, .int .i64 ((n0 : Int) + (p : Int)), .slice (some ⟨B + 1, 0, none⟩) (n0 + p) (n0 + p), .slice (some ⟨B + 1, 0, none⟩) (n0 + p) (n0 + p), .int .i64 ((n0 : Int) + (p : Int)), .slice (some ⟨g, 0, none⟩) m cm, .func (.func 66) #[] #[.pointer (some ⟨B + 1 + 1 + 1 + 1, 0, none⟩)], .int .i64 x.1, .int .u64 x.2.1, undef, undef, undef, undef, undef, undef, undef, undef, undef, undef, undef, undef, undef, undef, undef, undef, undef, undef, undef], defers := [] }) ?assign ?body ?done ?stop
  case assign =>
    intro l x W K hK
    gi_wp2
    exact hK
  case body =>
    rintro l pre x W ⟨hq, R⟩ hlt
    have e0 := R.b0.cell 0
    simp only [List.getElem?_cons_zero] at e0
    obtain ⟨a1, ha1⟩ : ∃ a1, n0 + each * (m - (pre.length + 1)) = a1 := ⟨_, rfl⟩
    have ha0 : n0 + each * (m - pre.length) = a1 + each := by
      rw [← ha1, show m - pre.length = (m - (pre.length + 1)) + 1 by omega, Nat.mul_add]; omega
    have ha2 : a1 + each ≤ n0 + p := by
      rw [← ha0, ← hp]; exact Nat.add_le_add_left (Nat.mul_le_mul_left _ (by omega)) _
    rw [ha0] at R
    have hlen0 : ((List.replicate (a1 + each) 0 ++ cameBytes pre each).length) = a1 + each + (cameBytes pre each).length := by simp
    obtain ⟨xi, xv, x0, x1⟩ := x
    dsimp only
    gi_wp2
    gi_loopw [10, 26] (fun nv j wr => ∃ jn : Nat, jn ≤ each ∧ j = .int .i64 jn ∧ nv = .int .u64 (xv / pow256 jn) ∧ RowAt w B (n0 + p) each (a1 + each - jn) (be xv jn ++ cameBytes pre each) wr ∧ KeepsFrom W5.heap.size W wr ∧ Same (fun k => k = B + 1 + 1 + 1 + 1 ∨ k = g) W wr)
      (fun _ j _ => each - (intOf j).toNat)
    case atStart => exact ⟨0, Nat.zero_le _, rfl, by simp [pow256], by simpa [be] using R, KeepsFrom.refl _ _, Nat.le_refl _, fun _ _ => rfl⟩
    case round =>
      obtain ⟨jn, hj, rfl, rfl, R', hkf, hsame⟩ := hrel
      by_cases hjl : jn < each
      · obtain ⟨a', ha'⟩ : ∃ a', a1 + each - jn = a' + 1 := ⟨a1 + each - jn - 1, by omega⟩
        rw [ha'] at R'
        have v0 : 0 ≤ xv / pow256 jn := Int.ediv_nonneg x0 (Int.le_of_lt (pow256_pos jn))
        have v1 : xv / pow256 jn ≤ 18446744073709551615 := Int.le_trans (Int.ediv_le_self _ x0) x1
        have hbe := be_cons jn xv
        have hdiv : xv / pow256 (jn + 1) = xv / pow256 jn / 256 := by
          rw [pow256, Int.mul_comm, Int.ediv_ediv_of_nonneg (Int.le_of_lt (pow256_pos jn))]
        generalize xv / pow256 jn = nv at *
        have c2 := R'.b2.cell 0
        have c3 := R'.b3.cell 0
        simp only [List.getElem?_cons_zero] at c2 c3
        have f3 := R'.b3.free 0
        have f1 := R'.b1.free a'
        have c1 := R'.b1.int_at a' (by simp; omega)
        have hcast : ((a' + 1 : Nat) : Int) = (a' : Int) + 1 := by simp
        rw [hcast] at c3
        have q1 : a' + 1 ≤ n0 + p := by omega
        have hx1 : ((List.replicate (a' + 1) 0 ++ (be xv jn ++ cameBytes pre each))[a']?.getD 0) = 0 := by
          rw [List.getElem?_append_left (by simp)]; simp
        rw [hx1] at c1
        have HBE := Lib.hid hbe
        have HDIV := Lib.hid hdiv
        have HA := Lib.hid ha'
        have HA0 := Lib.hid ha0
        have HA1 := Lib.hid ha1
        clear hbe hdiv ha' ha0 ha1 hx1 hcast hlen0
        gi_wp2
        refine ⟨⟨jn + 1, by omega, by go_num, by rw [HDIV.out], ⟨?_, ?_, ?_, ?_, ?_⟩, ?_, ?_⟩, by simp [intOf]; omega⟩
        · exact (R'.b0.far (p := ⟨B + 1 + 1 + 1, 0, none⟩) (by show B ≠ B + 1 + 1 + 1; omega) _).far (p := ⟨B + 1, a', none⟩) (by show B ≠ B + 1; omega) _
        · have h9 := (R'.b1.far (p := ⟨B + 1 + 1 + 1, 0, none⟩) (by show B + 1 ≠ B + 1 + 1 + 1; omega) (.int .i64 a')).int_put a' (nv % 256)
          rw [rep_set] at h9
          rw [show a1 + each - (jn + 1) = a' by have := HA.out; omega, HBE.out]
          simpa using h9
        · exact (R'.b2.far (p := ⟨B + 1 + 1 + 1, 0, none⟩) (by show B + 1 + 1 ≠ B + 1 + 1 + 1; omega) _).far (p := ⟨B + 1, a', none⟩) (by show B + 1 + 1 ≠ B + 1; omega) _
        · have h9 := (R'.b3.put 0 (.int .i64 a')).far (p := ⟨B + 1, a', none⟩) (by show B + 1 + 1 + 1 ≠ B + 1; omega) (.int .u8 (nv % 256))
          rw [show a1 + each - (jn + 1) = a' by have := HA.out; omega]
          simpa using h9
        · exact (R'.below.setCell (p := ⟨B + 1 + 1 + 1, 0, none⟩) (by show _ ≤ B + 1 + 1 + 1; omega) _).setCell (p := ⟨B + 1, a', none⟩) (by show _ ≤ B + 1; omega) _
        · exact (hkf.trans ((KeepsOthers.setCell _ _ _).from _)).trans ((KeepsOthers.setCell _ _ _).from _)
        · refine same_t (same_t hsame ⟨by simp [World.setCell], fun k hk => Below.heap_setCell _ _ _ k ?_⟩) ⟨by simp [World.setCell], fun k hk => Below.heap_setCell _ _ _ k ?_⟩
          · show k ≠ B + 1 + 1 + 1; omega
          · show k ≠ B + 1; omega
      · obtain rfl : jn = each := by omega
        gi_wp2
        refine ⟨hkf, hsame, by simp; omega, ?_⟩
        rw [cameBytes_snoc, List.length_append, List.length_singleton, ha1]
        rw [show a1 + jn - jn = a1 by omega] at R'
        exact R'
  case done =>
    rintro D ys W hD rfl ⟨_, R⟩ hK
    rw [upto_length, Nat.sub_self, Nat.mul_zero, Nat.add_zero] at R
    rw [show cameBytes (upto (downAt zs) m) each = flat (zs.map (·.1)) each by rw [← hz]; exact cameBytes_all zs each] at R
    have c2 := R.b2.cell 0
    have c3 := R.b3.cell 0
    simp only [List.getElem?_cons_zero] at c2 c3
    have rW := r0.below R.below
    generalize hfl : flat (zs.map (·.1)) each = fl at *
    have HFL := Lib.hid hfl
    clear hfl
    have hfl2 : fl.length = p := by rw [← HFL.out, flat_length, List.length_map, hz, hp]
    have hcl : (bs.map (Value.int .u8)).length = Nat.min n0 n0 := by simp [r0.len]
    have hpos : 0 < (bs.map (Value.int .u8)).length → (some (⟨B + 1, 0, none⟩ : Addr) = some ⟨B + 1, 0, none⟩) ∧ ∃ ad, A0 = some ad ∧ ∀ j v, (bs.map (Value.int .u8))[j]? = some v → W.cell? (ad.add j) = some v := by
      intro h
      obtain ⟨b, off, e, _, hcc⟩ := rW.row (by rw [← r0.len]; simpa using h)
      refine ⟨rfl, _, e, fun j v hv => ?_⟩
      have ha : (⟨b, off, none⟩ : Addr).add j = ⟨b, off + j, none⟩ := by unfold Addr.add; split <;> simp_all
      rw [ha]
      have hj : j < bs.length := by
        rcases Nat.lt_or_ge j bs.length with h | h
        · exact h
        · rw [List.getElem?_eq_none (by simpa using h)] at hv; cases hv
      rw [hcc j (by rw [← r0.len]; exact hj)]
      simpa [hj] using hv
    have hfit : 0 + (bs.map (Value.int .u8)).length ≤ ((List.replicate n0 0 ++ fl).map (Value.int .u8)).length := by simp [r0.len]
    have hone : ∀ v ∈ bs.map (Value.int .u8), v.oneCell' = true := by
      intro v hv
      obtain ⟨x, _, rfl⟩ := List.mem_map.1 hv
      rfl
    have HK := Lib.hid hK
    have HC := Lib.hid hcl
    have HP := Lib.hid hpos
    have HT := Lib.hid hfit
    have HO := Lib.hid hone
    clear hK hcl hpos hfit hone
    gi_wp2_with (refine wpListIn_copy (o := ⟨some 42, _, _, _, _, _⟩) rfl _ _ _ _ rfl 5 Try.underlying49 size_u8 (some ⟨B + 1, 0, none⟩) A0 n0 (n0 + p) n0 c0 rfl rfl (B + 1) 0 _ 5 R.b1 (bs.map (Value.int .u8)) HC.out HP.out HT.out HO.out ?_
                 intro w6 hb6 hk6
                 have c6 : w6.cell? ⟨B + 1 + 1, 0, none⟩ = some (.slice (some ⟨B + 1, 0, none⟩) (n0 + p) (n0 + p)) := (hk6.cell (p := ⟨B + 1 + 1, 0, none⟩) R.b2.lt (by show ¬ (B + 1 + 1 = B + 1); omega)).trans c2
                 have HK6 := Lib.hid ((hk6.block D (Array.getElem?_eq_some_iff.1 HK.out).1 (by show ¬ D = B + 1; omega)).trans HK.out)
                 have B6 := below_keeps R.below hk6 (Nat.le_refl _) (fun i hi => by subst hi; omega))
    refine ⟨by simp, .inl ⟨_, _, rfl, run_takeDeferred HK6.out, ?_⟩⟩
    have e9 : (bs ++ flat ws each).length = n0 + p := by rw [HFLEN.out, HP2.out]
    refine ⟨_, results_tmp rfl _ _ _, B + 1, by omega, by rw [e9]; rfl, ?_, ?_⟩
    · have h9 : splice ((List.replicate n0 0 ++ fl).map (Value.int .u8)) 0 (bs.map (Value.int .u8)) = (bs ++ fl).map (Value.int .u8) := by
        simp [splice, r0.len]
      have h10 := hb6.out
      rw [h9] at h10
      rw [← HWS.out, HFL.out]
      exact (World.putObj_heap_other (by omega)).trans h10
    · exact B6.trans (belowK_b (w := w) (Nat.le_refl _) w6 D _ _ (by omega) HK6.out rfl rfl)
  case stop =>
    rintro D c pre W _ _ h _
    exact h.elim
end Go.Proofs.Ytadpgodmkodgdaa
