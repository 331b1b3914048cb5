/- Bytes of a call's own: Grow, Clip, append, parts of a slice. -/
import Derived.Test.YtadpgodmkodgdaaXRGuidesRoom3
import Derived.Lib.AppendZerosOnto
import Derived.Lib.SliceRun
namespace Go.Proofs.Ytadpgodmkodgdaa
open Go.RowKit
set_option linter.unusedSimpArgs false
set_option linter.unusedVariables false

theorem info_u8n : (Try.prog.info? 5).map (fun i => (i.zero, i.size, i.bytes)) = some (some (.int .u8 0), 1, 1) := by kernel_rfl
theorem bytes_wf {xs : List Int} (h : ∀ x ∈ xs, 0 ≤ x ∧ x ≤ 255) : ∀ x ∈ xs, (Lit.int .u8 x).wf = true := fun x hx => by
  simp only [Lit.wf, Bool.and_eq_true, decide_eq_true_eq]; exact h x hx
theorem rd_of_blk {w : World} {g n : Nat} {t : TypeId} {xs : List Int} (h : Blk w g t (xs.map (Value.int .u8))) (hw : ∀ x ∈ xs, 0 ≤ x ∧ x ≤ 255) (hl : xs.length = n) (hb : n ≤ 140737488351232) : Rd w .u8 (some ⟨g, 0, none⟩) n xs :=
  ⟨hl, hb, bytes_wf hw, fun _ => ⟨g, 0, rfl, h.lt, fun j hj => by rw [Nat.zero_add]; exact h.int_at j (by omega)⟩⟩
theorem rd_of_in {w : World} {g n : Nat} {t : TypeId} {cells : List Value} {xs : List Int} (h : Blk w g t cells) (ht : cells.take n = xs.map (Value.int .u8)) (hw : ∀ x ∈ xs, 0 ≤ x ∧ x ≤ 255) (hl : xs.length = n) (hb : n ≤ 140737488351232) : Rd w .u8 (some ⟨g, 0, none⟩) n xs :=
  ⟨hl, hb, bytes_wf hw, fun _ => ⟨g, 0, rfl, h.lt, fun j hj => by
    rw [Nat.zero_add, h.cell j, show cells[j]? = (cells.take n)[j]? by simp [List.getElem?_take, hj], ht]
    simp [hl, hj]⟩⟩
theorem rd_lit (w : World) (xs : List Int) (n : Nat) (hw : ∀ x ∈ xs, 0 ≤ x ∧ x ≤ 255) (hl : xs.length = n) (hb : n ≤ 140737488351232) : Rd (w.alloc (.cells (xs.map (Value.int .u8)).toArray 5)) .u8 (some ⟨w.heap.size, 0, none⟩) n xs :=
  rd_of_blk (Blk.new w 5 _) hw hl hb
theorem new_below (w : World) (o : Obj) : Below w.heap.size w (w.alloc o) := (Below.refl _ _).alloc (Nat.le_refl _) _
theorem rd_nil (w : World) (k : IntKind) : Rd w k none 0 [] := ⟨rfl, by omega, by simp, fun h => absurd h (by omega)⟩
/-- b[:m]. -/
theorem slice_to (W : World) (A : Option Addr) (len c m : Nat) (h : m ≤ c) : (Instr.slice 49 (.slice A len c) none (some (.int .i64 (m : Int))) none).run Try.prog W = .ok (.slice A m c) W := by
  rw [run_slice_h W 49 A len c (by kernel_rfl) .i64 (m : Int) (by omega) (by omega), show (sizeOf (Try.prog.elem 49)).run Try.prog W = .ok 1 W from by kernel_rfl]
  simp only [Result.andThen, sliced]
  have h0 : ∀ ad : Addr, ad.add 0 = ad := fun ad => by cases ad; unfold Addr.add; split <;> simp_all
  cases A with
  | none => simp
  | some ad => simp [h0]
theorem clip_any (A0 : Option Addr) (n0 c0 : Nat) (w : World) (l0 : n0 ≤ c0) (h0 : 0 < n0) (hc : c0 ≤ 9223372036854775807) (a : Nat) (hA : A0 = some ⟨a, 0, none⟩) :
    Calls Try.prog 32 #[.slice A0 n0 c0] w fun e w' => e = .returned (.slice A0 n0 n0) ∧ w = w' := by
  subst hA
  go_enter Try.func32, Try.ntmps32
  go_wp2_with fail
  go_ret
  exact ⟨rfl, rfl⟩

/-- b[:m:m]. -/
theorem slice_clip (W : World) (A : Option Addr) (len c m : Nat) (h : m ≤ c) : (Instr.slice 49 (.slice A len c) none (some (.int .i64 (m : Int))) (some (.int .i64 (m : Int)))).run Try.prog W = .ok (.slice A m m) W := by
  rw [run_slice_hm W 49 A len c (by kernel_rfl) .i64 .i64 (m : Int) (m : Int) (by omega) (by omega) (by omega), show (sizeOf (Try.prog.elem 49)).run Try.prog W = .ok 1 W from by kernel_rfl]
  simp only [Result.andThen, sliced]
  have h0 : ∀ ad : Addr, ad.add 0 = ad := fun ad => by cases ad; unfold Addr.add; split <;> simp_all
  cases A with
  | none => simp
  | some ad => simp [h0]
theorem clip_all (A0 : Option Addr) (n0 c0 : Nat) (w : World) (l0 : n0 ≤ c0) :
    Calls Try.prog 32 #[.slice A0 n0 c0] w fun e w' => e = .returned (.slice A0 n0 n0) ∧ w = w' := by
  have hs := fun W => slice_clip W A0 n0 c0 n0 l0
  go_enter Try.func32, Try.ntmps32
  go_wp2_with fail
  go_ret
  exact ⟨rfl, rfl⟩
/-- A call hands back new bytes, just as many as it has room for; behind them, out of reach, may be more. -/
def MadeIn (w : World) (bytes : List Int) (e : Ending) (w' : World) : Prop :=
  ∃ g cells, w.heap.size ≤ g ∧ e = .returned (.slice (some ⟨g, 0, none⟩) bytes.length bytes.length) ∧ Blk w' g 5 cells ∧ cells.take bytes.length = bytes.map (Value.int .u8) ∧ Below w.heap.size w w'
theorem Made.in {w w' : World} {bytes : List Int} {e : Ending} (h : Made w bytes e w') : MadeIn w bytes e w' := by
  obtain ⟨g, hg, he, hk, hB⟩ := h
  exact ⟨g, _, hg, he, hk, List.take_of_length_le (by simp), hB⟩
/-- Some of a slice's bytes. -/
theorem Rd.sub {w : World} {k : IntKind} {b off n : Nat} {xs : List Int} (h : Rd w k (some ⟨b, off, none⟩) n xs) (from_ m : Nat) (hm : from_ + m ≤ n) : Rd w k (some ⟨b, off + from_, none⟩) m ((xs.drop from_).take m) :=
  ⟨by simp [h.len]; omega, by have := h.big; omega, fun x hx => h.wf x (List.mem_of_mem_drop (List.mem_of_mem_take hx)), fun h0 => by
    obtain ⟨b', off', e, hb, hc⟩ := h.row (by omega)
    injection e with e
    injection e with e1 e2
    subst e1 e2
    refine ⟨_, _, rfl, hb, fun j hj => ?_⟩
    rw [Nat.add_assoc, hc (from_ + j) (by omega)]
    simp [hj]⟩
section
variable {P : Program} {ops : Array Oper} {rest : List Oper} {o : Oper} {a : Act} {Q : Exit → Act → World → Prop}
set_option maxRecDepth 100000 in
/-- append(v, x...), x any bytes that are read. -/
theorem append_bytes {w : World} (base : Nat) (hgd : o.guard = none) (s x : Operand)
    (ho : o.op = .call { callee := .builtin .append, args := #[s, x], argTypes := #[49, 49] })
    (v : Value) (n : Nat) (xs : List Int) (hs : a.eval s = v) (A : Option Addr) (m c : Nat) (ys : List Int) (hx : a.eval x = .slice A m c) (hr : Rd w .u8 A m ys) (hz : A = none → c = 0)
    (HO : w.ownsRow base 5 1 v n (xs.map (Value.int .u8))) (hbase : base ≤ w.heap.size) (hl : n + m ≤ 140737488355328)
    (h : ∀ v1 w1, Hid (w1.ownsRow base 5 1 v1 (n + m) ((xs ++ ys).map (Value.int .u8))) → w.grownBy w1 v.ownBlock → (v1.ownBlock = v.ownBlock ∨ v1.ownBlock = some w.heap.size) → wpList Try.prog ops Q rest (a.put o.dst v1) w1) :
    wpList Try.prog ops Q (o :: rest) a w := by
  obtain ⟨i0, hi, hzz⟩ := Option.map_eq_some_iff.1 info_u8n
  simp only [Prod.mk.injEq] at hzz
  obtain ⟨hz0, hz1, hz2⟩ := hzz
  cases A with
  | none =>
    obtain rfl := hz rfl
    obtain rfl : m = 0 := by
      rcases Nat.eq_zero_or_pos m with h | h
      · exact h
      · obtain ⟨_, _, e, _⟩ := hr.row h; cases e
    obtain rfl : ys = [] := List.eq_nil_of_length_eq_zero hr.len
    refine Lib.wpList_append_run w hgd s x 49 49 ho v (.slice none 0 0) hs hx v w (run_append_owned_none w base 49 _ 5 i0 1 Try.underlying49 hi v n _ HO) ?_
    exact h v w (Lib.hid (by simpa using HO)) ⟨rfl, rfl, rfl, Nat.le_refl _, fun _ _ _ => rfl⟩ (.inl rfl)
  | some ad =>
    have hnews : ∀ j u, (ys.map (Value.int .u8))[j]? = some u → w.cell? (ad.add j) = some u := by
      intro j u hj
      have hjl : j < ys.length := by
        rcases Nat.lt_or_ge j ys.length with h | h
        · exact h
        · rw [List.getElem?_eq_none (by simpa using h)] at hj; cases hj
      obtain ⟨b, off, e, _, hc⟩ := hr.row (by rw [← hr.len]; omega)
      injection e with e
      subst e
      have ha : (⟨b, off, none⟩ : Addr).add j = ⟨b, off + j, none⟩ := by unfold Addr.add; split <;> simp_all
      rw [ha, hc j (by rw [← hr.len]; exact hjl)]
      simpa [hjl] using hj
    refine wpList_append_own_at w hgd s x 49 ho base 5 i0 (.int .u8 0) 1 1 Try.underlying49 hi hz0 hz1 hz2 rfl (by omega) v n _ hs HO ad m c (ys.map (Value.int .u8)) hx (by simp [hr.len]) hnews (one_u8 _) (by unfold maxLen; omega) (by omega) hbase ?_
    intro v3 w3 hown3 hg3 _ hat
    exact h v3 w3 (Lib.hid (by simpa using hown3)) hg3 hat
end
/-- A row of bytes of the call's own, read. -/
theorem rd_own {w : World} {base n : Nat} {g c : Nat} {xs : List Int} (h : w.ownsRow base 5 1 (.slice (some ⟨g, 0, none⟩) n c) n (xs.map (Value.int .u8))) (hb : ∀ x ∈ xs, 0 ≤ x ∧ x ≤ 255) (hn : n ≤ 140737488351232) : Rd w .u8 (some ⟨g, 0, none⟩) n xs := by
  obtain ⟨hl, A, c', e, _, _, hrow⟩ := own_ints h
  injection e with e _ _
  subst e
  exact ⟨hl, hn, bytes_wf hb, fun h0 => by
    obtain ⟨g', e', _, hlt, hc⟩ := hrow h0
    injection e' with e'
    injection e' with e'
    subst e'
    exact ⟨g, 0, rfl, hlt, fun j hj => by rw [Nat.zero_add]; exact hc j hj⟩⟩
theorem grown_below {w0 w w' : World} {v : Value} {base : Nat} {e : TypeId} {size n : Nat} {xs : List Value} (h : Below w0.heap.size w0 w) (hg : w.grownBy w' v.ownBlock) (ho : w.ownsRow base e size v n xs) (hb : w0.heap.size ≤ base) : Below w0.heap.size w0 w' :=
  h.trans ⟨hg.os, hg.tape, hg.output, hg.size, fun i hi => hg.block i (Nat.lt_of_lt_of_le hi h.size) (fun e => by
    have := (own_base ho i e.symm).1
    omega)⟩
theorem own_some {w : World} {base n : Nat} {v : Value} {xs : List Int} (h : w.ownsRow base 5 1 v n (xs.map (Value.int .u8))) (hn : 0 < n) : ∃ g c, v = .slice (some ⟨g, 0, none⟩) n c ∧ n ≤ c ∧ base ≤ g ∧ g < w.heap.size := by
  obtain ⟨_, A, c, rfl, hc, _, hr⟩ := own_ints h
  obtain ⟨g, rfl, hb, hg, _⟩ := hr hn
  exact ⟨g, c, rfl, hc, hb, hg⟩
set_option maxRecDepth 100000 in
/-- append(v, x...) in the model, x any bytes that are read. -/
theorem run_append_bytes {w : World} (base : Nat) (ty : TypeId) (v : Value) (n : Nat) (xs : List Int) (A : Option Addr) (m c : Nat) (ys : List Int) (hr : Rd w .u8 A m ys) (hz : A = none → c = 0)
    (HO : w.ownsRow base 5 1 v n (xs.map (Value.int .u8))) (hbase : base ≤ w.heap.size) (hl : n + m ≤ 140737488355328) :
    ∃ v1 w1, (Builtin.append_ #[49, 49] ty #[v, .slice A m c]).run Try.prog w = .ok v1 w1 ∧ w1.ownsRow base 5 1 v1 (n + m) ((xs ++ ys).map (Value.int .u8)) ∧ w.grownBy w1 v.ownBlock ∧ (v1.ownBlock = v.ownBlock ∨ v1.ownBlock = some w.heap.size) := by
  obtain ⟨i0, hi, hzz⟩ := Option.map_eq_some_iff.1 info_u8n
  simp only [Prod.mk.injEq] at hzz
  obtain ⟨hz0, hz1, hz2⟩ := hzz
  cases A with
  | none =>
    obtain rfl := hz rfl
    obtain rfl : m = 0 := by
      rcases Nat.eq_zero_or_pos m with h | h
      · exact h
      · obtain ⟨_, _, e, _⟩ := hr.row h; cases e
    obtain rfl : ys = [] := List.eq_nil_of_length_eq_zero hr.len
    exact ⟨v, w, run_append_owned_none w base 49 _ 5 i0 1 Try.underlying49 hi v n _ HO, by simpa using HO, ⟨rfl, rfl, rfl, Nat.le_refl _, fun _ _ _ => rfl⟩, .inl rfl⟩
  | some ad =>
    have hnews : ∀ j u, (ys.map (Value.int .u8))[j]? = some u → w.cell? (ad.add j) = some u := by
      intro j u hj
      have hjl : j < ys.length := by
        rcases Nat.lt_or_ge j ys.length with h | h
        · exact h
        · rw [List.getElem?_eq_none (by simpa using h)] at hj; cases hj
      obtain ⟨b, off, e, _, hc⟩ := hr.row (by rw [← hr.len]; omega)
      injection e with e
      subst e
      have ha : (⟨b, off, none⟩ : Addr).add j = ⟨b, off + j, none⟩ := by unfold Addr.add; split <;> simp_all
      rw [ha, hc j (by rw [← hr.len]; exact hjl)]
      simpa [hjl] using hj
    obtain ⟨v', w', hr, h2, h3, _, h5⟩ := run_append_own_at (P := Try.prog) w base 49 ty 5 i0 (.int .u8 0) 1 1 Try.underlying49 hi hz0 hz1 hz2 rfl (by omega) v n _ HO ad m c (ys.map (Value.int .u8)) (by simp [hr.len]) hnews (one_u8 _) (by unfold maxLen; omega) (by omega) hbase
    exact ⟨v', w', hr, by simpa using h2, h3, h5⟩
/-- The same as a step of a region that draws its order. -/
theorem step_append_bytes {ops : Array Oper} {o : Oper} {a : Act} {w : World} {K : Act → World → Prop} {Q : Exit → Act → World → Prop} {E : Prop} (base : Nat)
    (hgd : o.guard = none) (s x : Operand) (ho : o.op = .call { callee := .builtin .append, args := #[s, x], argTypes := #[49, 49] })
    (v : Value) (n : Nat) (xs : List Int) (hs : a.eval s = v) (A : Option Addr) (m c : Nat) (ys : List Int) (hx : a.eval x = .slice A m c) (hr : Rd w .u8 A m ys) (hz : A = none → c = 0)
    (HO : w.ownsRow base 5 1 v n (xs.map (Value.int .u8))) (hbase : base ≤ w.heap.size) (hl : n + m ≤ 140737488355328)
    (h : ∀ v1 w1, Hid (w1.ownsRow base 5 1 v1 (n + m) ((xs ++ ys).map (Value.int .u8))) → w.grownBy w1 v.ownBlock → (v1.ownBlock = v.ownBlock ∨ v1.ownBlock = some w.heap.size) → K (a.put o.dst v1) w1) :
    if Region.wanted o (yielded ops a.tmps) = true then Oper.wp Try.prog o a w K Q else E := by
  have hw : Region.wanted o (yielded ops a.tmps) = true := by simp [Region.wanted, hgd]
  rw [if_pos hw]
  obtain ⟨v1, w1, hrun, h2, h3, h5⟩ := run_append_bytes base o.type v n xs A m c ys hr hz HO hbase hl
  unfold Oper.wp execOp
  simp only [ho, resolve, invoke, builtin, Sem.run_bind, Sem.run_pure, Result.andThen_ok, List.map_toArray, List.map_cons, List.map_nil, hs, hx, hrun]
  exact h v1 w1 (Lib.hid h2) h3 h5
theorem grown_nil {w w' : World} (hg : w.grownBy w' (Value.slice none 0 0).ownBlock) : Below w.heap.size w w' :=
  ⟨hg.os, hg.tape, hg.output, hg.size, fun i hi => hg.block i hi (by simp [Value.ownBlock])⟩
theorem grown_at {w0 w w' : World} {v : Value} (hg : w.grownBy w' v.ownBlock) (hat : v.ownBlock = none ∨ v.ownBlock = some w0.heap.size) (h0 : w0.heap.size ≤ w.heap.size) : Below w0.heap.size w w' :=
  ⟨hg.os, hg.tape, hg.output, hg.size, fun i hi => hg.block i (Nat.lt_of_lt_of_le hi h0) (fun e => by
    rcases hat with h | h
    · rw [h] at e; cases e
    · rw [h] at e; injection e with e; omega)⟩
end Go.Proofs.Ytadpgodmkodgdaa
