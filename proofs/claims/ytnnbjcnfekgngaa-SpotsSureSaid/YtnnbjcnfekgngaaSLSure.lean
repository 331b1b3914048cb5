/- The law SpotsSure: the walk. -/
import Derived.Test.YtnnbjcnfekgngaaSAlive
import Derived.Test.YtnnbjcnfekgngaaSGreat
import Derived.Test.YtnnbjcnfekgngaaSSureP
import Derived.Test.YtnnbjcnfekgngaaBdBase
import Derived.Deep.RegionHeld3
import Derived.Deep.DeepCutAuto
import Derived.Deep.CutBlock
namespace Go.Proofs.Ytnnbjcnfekgngaa
open Go.RowKit Go.ChangeShapes Go.WideShapes
set_option linter.unusedSimpArgs false
set_option linter.unusedVariables false

section
variable {P : Program} {ops : Array Oper} {rest : List Oper} {o : Oper} {a : Act} {w : World} {Q : Exit → Act → World → Prop}
theorem wpList_read {v : Value} (hw : Region.wanted o (yielded ops a.tmps) = true) (hr : (execOp a.eval o).run P w = .ok (.value v) w) (h : wpList P ops Q rest (a.put o.dst v) w) : wpList P ops Q (o :: rest) a w := wpList_want hw hr h
end
theorem list_atS {p g : Nat} {l : List Spt} {cr : Int} {w : World} (h : SetAt w p g l cr) :
    Calls Try.prog 12 #[.pointer (some ⟨p, 0, none⟩)] w fun e w' => ∃ A, e = .returned (.slice A l.length l.length) ∧ Rd w' .u32 A l.length (l.map (·.at_)) ∧ Below w.heap.size w w' :=
  (list_any h).mono fun e w' hh => by
    obtain ⟨A, he, hr, _⟩ := hh.rd (fun x hx => by
      obtain ⟨s, hs, rfl⟩ := List.mem_map.1 hx
      exact h.ats s hs) (by rw [List.length_map]; have := h.len; omega)
    obtain ⟨_, _, _, _, _, hB⟩ := hh
    rw [List.length_map] at he hr
    exact ⟨A, he, hr, hB⟩
theorem acts_at {w : World} {A : Option Addr} {n : Nat} {xs : List Sa} (h : SActs w A n xs) {k : Nat} (hk : k < n) : ∃ b off x, A = some ⟨b, off, none⟩ ∧ b < w.heap.size ∧ xs[k]? = some x ∧ OkSa w x ∧ ∀ W, Below w.heap.size w W → W.rangeAt b (off + k * 36) (saC x) := by
  obtain ⟨b, off, e, hb, hr⟩ := h.row (by omega)
  obtain ⟨x, hx⟩ : ∃ x, xs[k]? = some x := ⟨_, List.getElem?_eq_getElem (by rw [h.len]; exact hk)⟩
  refine ⟨b, off, x, e, hb, hx, h.ok x (List.mem_of_getElem? hx), fun W hW => ?_⟩
  exact fun i v hv => (hW.cell (p := ⟨b, off + k * 36 + i, none⟩) hb).trans (hr k x hx i v hv)
def zACT : List Value := [.int .u8 0, .slice none 0 0, .int .u32 0] ++ ((List.replicate 32 (0 : Int)).map (Value.int .u8) ++ [.int .i64 0])
theorem alloc_act (W : World) (o : Oper) (ho : o.op = .alloc 35) (ev : Operand → Value) : (execOp ev o).run Try.prog W = .ok (.value (.pointer (some ⟨W.heap.size, 0, none⟩))) (W.alloc (.cells zACT.toArray 35)) := by
  obtain ⟨d, op, t, p, af, g⟩ := o
  simp only at ho
  subst ho
  kernel_rfl
theorem saC_one (x : Sa) : ∀ v ∈ saC x, v.oneCell' = true := by
  intro v hv
  simp only [saC, List.mem_cons, List.mem_append, List.mem_map, List.not_mem_nil, or_false] at hv
  rcases hv with rfl | rfl | rfl | ⟨y, _, rfl⟩ | rfl <;> rfl
set_option maxRecDepth 100000 in
theorem build_act1 (V : List Value) (h : V.length = 36) (W : World) : (Instr.buildSlice 24 1 #[(0, .agg V.toArray)]).run Try.prog W = .ok (.slice (some ⟨W.heap.size, 0, none⟩) 1 1) (W.alloc (.cells V.toArray 35)) := by
  obtain ⟨f, rfl⟩ := as_map V 36 h
  kernel_rfl
theorem info_act : (Try.prog.info? 35).map (fun i => (i.zero, i.size, i.bytes)) = some (some (.agg zACT.toArray), 36, 80) := by kernel_rfl
theorem own_own_ne {w : World} {b1 b2 : Nat} {e t : TypeId} {s1 s2 n m : Nat} {v u : Value} {xs ys : List Value} (h : w.ownsRow b1 e s1 v n xs) (h2 : w.ownsRow b2 t s2 u m ys) (hne : e ≠ t) : ∀ k, v.ownBlock = some k → ¬ u.ownBlock = some k := by
  intro k hk hu
  rcases h2.2 with ⟨rfl, _⟩ | ⟨g', cap, cur, rfl, _, hh, _⟩
  · simp [Value.ownBlock] at hu
  · have hg : g' = k := by simpa [Value.ownBlock] using hu
    subst hg
    exact own_blk_ne h (cs := cur.toList) (by unfold Blk; rw [hh]) hne hk
theorem size_act : (Try.prog.info? 35).map (·.size) = some 36 := by kernel_rfl
def flatA : List Sa → List Value
  | [] => []
  | x :: l => saC x ++ flatA l
theorem flatA_snoc : ∀ (l : List Sa) (x : Sa), flatA (l ++ [x]) = flatA l ++ saC x
  | [], x => by simp [flatA]
  | y :: l, x => by simp [flatA, flatA_snoc l x]
theorem flatA_len : ∀ (l : List Sa), (∀ x ∈ l, x.sum.length = 32) → (flatA l).length = l.length * 36
  | [], _ => rfl
  | x :: l, h => by
    rw [flatA, List.length_append, flatA_len l (fun y hy => h y (by simp [hy])), saC_length (h x (by simp)), List.length_cons]; omega
theorem flatA_at : ∀ (l : List Sa), (∀ x ∈ l, x.sum.length = 32) → ∀ (j : Nat) (x : Sa), l[j]? = some x → ∀ i v, (saC x)[i]? = some v → (flatA l)[j * 36 + i]? = some v
  | [], _, j, x, h, i, v, _ => by simp at h
  | y :: l, hl, 0, x, h, i, v, hv => by
    simp at h; subst h
    have hi := (List.getElem?_eq_some_iff.1 hv).1
    rw [Nat.zero_mul, Nat.zero_add, flatA, List.getElem?_append_left hi]; exact hv
  | y :: l, hl, j + 1, x, h, i, v, hv => by
    have hy := saC_length (hl y (by simp))
    rw [flatA, List.getElem?_append_right (by rw [hy]; omega), hy, show (j + 1) * 36 + i - 36 = j * 36 + i by omega]
    exact flatA_at l (fun z hz => hl z (by simp [hz])) j x (by simpa using h) i v hv
theorem own_lowerS {w : World} {base base' : Nat} {e : TypeId} {size n : Nat} {v : Value} {xs : List Value} (h : w.ownsRow base e size v n xs) (hb : base' ≤ base) : w.ownsRow base' e size v n xs := by
  refine ⟨h.1, ?_⟩
  rcases h.2 with h1 | ⟨g, cap, cur, h1, h2, h3⟩
  · exact .inl h1
  · exact .inr ⟨g, cap, cur, h1, Nat.le_trans hb h2, h3⟩
theorem rowA_at {w : World} {base c : Nat} {A : Option Addr} {K : List Sa} (h : w.ownsRow base 35 36 (.slice A K.length c) K.length (flatA K)) (hk : ∀ x ∈ K, x.sum.length = 32) (h0 : 0 < K.length) :
    ∃ g8, A = some ⟨g8, 0, none⟩ ∧ g8 < w.heap.size ∧ ∀ m y, K[m]? = some y → w.rangeAt g8 (m * 36) (saC y) := by
  rcases h.2 with ⟨_, h1⟩ | ⟨g, cap, cur, h1, h2, h3, h4, h5, h6, h7⟩
  · omega
  · injection h1 with h1 _ _
    subst h1
    refine ⟨g, rfl, (Array.getElem?_eq_some_iff.1 h3).1, fun m y hy i v hv => ?_⟩
    have hb : Blk w g 35 cur.toList := by unfold Blk; rw [h3]
    have hf := flatA_at K hk m y hy i v hv
    rw [← h7, List.getElem?_take] at hf
    rw [hb.cell]
    split at hf
    · exact hf
    · cases hf
def zSUMS : List Value := (List.replicate 32 (0 : Int)).map (Value.int .u8)
theorem alloc_sumS (W : World) (o : Oper) (ho : o.op = .alloc 33) (ev : Operand → Value) : (execOp ev o).run Try.prog W = .ok (.value (.pointer (some ⟨W.heap.size, 0, none⟩))) (W.alloc (.cells zSUMS.toArray 33)) := by
  obtain ⟨d, op, t, p, af, g⟩ := o
  simp only at ho
  subst ho
  kernel_rfl
theorem ints_one {xs : List Int} : ∀ v ∈ xs.map (Value.int .u8), v.oneCell' = true := fun v hv => by
  obtain ⟨x, _, rfl⟩ := List.mem_map.1 hv
  rfl
theorem size_sumS : (Try.prog.info? 33).map (·.size) = some 32 := by kernel_rfl
theorem exec_neqSS {P : Program} {o : Oper} {a : Act} {w : World} {T T' : TypeId} {x y : Operand} (V : Array Value) (ho : o.op = .binOp .neq T x y T') (hx : a.eval x = .agg V) (hy : a.eval y = .agg V)
    (hm : P.eqGuardType P.depth T = false) (heq : (Op.equalIn 10000 T (.agg V) (.agg V)).run P w = .ok true w) : (execOp a.eval o).run P w = .ok (.value (.bool false)) w := by
  unfold execOp
  simp only [ho, hx, hy, Sem.run_bind, Sem.run_pure, run_eqGuard_agg w BinOp.neq T x y V V hm, Result.andThen_ok, run_neq_struct w T V V, heq]
  rfl
/-- What holds at the head of each round. -/
structure SureAt (w0 wr : World) (p g : Nat) (L : List Spt) (cr : Int) (S : List Int) (K : List Sa) (v7 v8 : Value) (N : Nat) : Prop where
  set : SetAt wr p g L cr
  gb : w0.heap.size ≤ g
  sv : wr.ownsRow w0.heap.size 23 1 v7 S.length (S.map (Value.int .u32))
  kv : wr.ownsRow w0.heap.size 35 36 v8 K.length (flatA K)
  inv : SureInv L S K
  sl : S.length ≤ N + 1
  kl : K.length ≤ N
  kok : ∀ x ∈ K, x.sum.length = 32
  bel : Below w0.heap.size w0 wr
theorem SureAt.below {w0 wr w' : World} {p g : Nat} {L : List Spt} {cr : Int} {S : List Int} {K : List Sa} {v7 v8 : Value} {N : Nat} (h : SureAt w0 wr p g L cr S K v7 v8 N) (hB : Below wr.heap.size wr w') : SureAt w0 w' p g L cr S K v7 v8 N :=
  ⟨h.set.below hB, h.gb, (Keeps.of_below (M := fun _ => False) hB).own h.sv (fun _ _ h => h), (Keeps.of_below (M := fun _ => False) hB).own h.kv (fun _ _ h => h), h.inv, h.sl, h.kl, h.kok, h.bel.trans (hB.mono h.bel.size)⟩
theorem SureAt.next {w0 wr : World} {p g : Nat} {L : List Spt} {cr : Int} {S : List Int} {K : List Sa} {v7 v8 : Value} {N : Nat} (h : SureAt w0 wr p g L cr S K v7 v8 N) : SureAt w0 wr p g L cr S K v7 v8 (N + 1) :=
  ⟨h.set, h.gb, h.sv, h.kv, h.inv, by have := h.sl; omega, by have := h.kl; omega, h.kok, h.bel⟩
theorem any_next {S : List Int} {j : Nat} {b a : Int} (hb : S[j]? = some b) : (S.take (j + 1)).any (· == a) = ((S.take j).any (· == a) || (b == a)) := by
  have h := (List.getElem?_eq_some_iff.1 hb).1
  rw [List.take_succ_eq_append_getElem h, (List.getElem?_eq_some_iff.1 hb).2, List.any_append]
  simp
theorem any_mem (S : List Int) (a : Int) : S.any (· == a) = decide (a ∈ S) := by
  rw [Bool.eq_iff_iff]; simp
set_option maxRecDepth 100000 in
set_option maxHeartbeats 16000000 in
theorem sure_at (f : Int) (A1 : Option Addr) (n1 c1 : Nat) (acts : List Sa) (w : World) (hf : 0 ≤ f ∧ f ≤ 4294967295) (h1 : SActs w A1 n1 acts) (hn1 : n1 ≤ maxLen) (hn80 : n1 * 80 ≤ 140737488351232) :
    Calls Try.prog 3 #[.int .u32 f, .slice A1 n1 c1] w fun e w' => e = .returned (.bool true) ∧ Below w.heap.size w w' := by
  have HA1 := Lib.hid h1
  have HNL := Lib.hid hn1
  have hn1' : n1 ≤ 9223372036854775807 := hn1
  clear h1 hn1
  by_cases hz : f = 0
  · subst hz
    go_enter Try.func3, Try.ntmps3
    go_wp2_with fail
    refine (new_zero w).mono ?_; rintro e w' ⟨rfl, rfl⟩
    go_wp2_with fail
    refine (aliveS_true w).mono ?_; rintro e w2 ⟨rfl, hB⟩
    have HB2 := Lib.hid hB
    clear hB
    go_wp2_with fail
    refine (aliveS_true w2).mono ?_; rintro e w3 ⟨rfl, hB⟩
    have HBO := Lib.hid (HB2.out.trans (hB.mono HB2.out.size))
    clear hB
    go_wp2_with fail
    go_ret
    exact ⟨rfl, HBO.out⟩
  have HNEW := Lib.hid (new_any f w (by omega))
  have HFB := Lib.hid hf
  clear hf hz
  go_enter Try.func3, Try.ntmps3
  go_wp2_with fail
  refine HNEW.out.mono ?_; rintro e w1 ⟨p, g, rfl, hp, hg, hS, hB⟩
  have HP := Lib.hid hp
  have HG0 := Lib.hid hg
  have HS1 := Lib.hid hS
  have HB1 := Lib.hid hB
  clear hp hg hS hB
  go_wp2_with fail
  refine (aliveS_true w1).mono ?_; rintro e w2 ⟨rfl, hB⟩
  have HS2 := Lib.hid (HS1.out.below hB)
  have HB2 := Lib.hid (HB1.out.trans (hB.mono HB1.out.size))
  have HGR := Lib.hid (great_any A1 n1 c1 acts w2 (HA1.out.below HB2.out) HNL.out)
  clear hB HS1 HB1
  go_wp2_with fail
  refine HGR.out.mono ?_; rintro e w' ⟨q, rfl, rfl⟩
  cases q with
  | true =>
    go_wp2_with fail
    refine (aliveS_true w2).mono ?_; rintro e w3 ⟨rfl, hB⟩
    have HBO := Lib.hid (HB2.out.trans (hB.mono HB2.out.size))
    clear hB
    go_wp2_with fail
    go_ret
    exact ⟨rfl, HBO.out⟩
  | false =>
    clear HGR HNEW
    have hB3 := new_belowS w2 (.cells #[.int .u32 f] 23)
    have HST0 : Hid (SureAt w (w2.alloc (.cells #[.int .u32 f] 23)) p g [⟨f, 2, none⟩] 0 [f] [] (.slice (some ⟨w2.heap.size, 0, none⟩) 1 1) (.slice none 0 0) 0) := Lib.hid
      ⟨HS2.out.below hB3, HG0.out, ⟨rfl, .inr ⟨w2.heap.size, 1, #[.int .u32 f], rfl, HB2.out.size, Blk.new w2 23 [.int .u32 f], Nat.le_refl _, by decide, rfl, rfl⟩⟩, own_nil _ _ _ _, sure_start f, by simp, by simp, by simp, HB2.out.trans (hB3.mono HB2.out.size)⟩
    clear hB3
    have HU := Lib.hid Try.underlying33
    have HUA := Lib.hid Try.underlying35
    go_wp2_with fail
    go_loopw [7, 8, 9] (fun v7 v8 i wr => ∃ (k g : Nat) (L : List Spt) (cr : Int) (S : List Int) (K : List Sa), k ≤ n1 ∧ i = .int .i64 k ∧ SureAt w wr p g L cr S K v7 v8 k) (fun _ _ i _ => n1 - (intOf i).toNat)
    case atStart => exact ⟨0, g, _, 0, [f], [], Nat.zero_le _, rfl, HST0.out⟩
    case round =>
      clear HST0 HS2 HG0 HB2
      obtain ⟨k, g', L, cr, S, K, hk, rfl, hst⟩ := hrel
      obtain ⟨A7, c7, rfl, h7c, h7m, -⟩ := own_slice hst.sv
      obtain ⟨A8, c8, rfl, h8c, h8m, -⟩ := own_slice hst.kv
      have HST := Lib.hid hst
      clear hst
      by_cases hlt : k < n1
      · obtain ⟨b, off, x, rfl, hbl, hx, hok, hpart⟩ := acts_at HA1.out hlt
        have HOKX := Lib.hid hok
        have hrng := hpart wr HST.out.bel
        have hlen := saC_length hok.sum
        have HRNG := Lib.hid hrng
        have HSZA : Hid ((Try.prog.info? 35).map (·.size) = some (saC x).length) := Lib.hid (by rw [hlen]; exact size_act)
        have HLEN := Lib.hid hlen
        have HONE := Lib.hid (saC_one x)
        have HAACT := Lib.hid alloc_act
        have HZA : Hid (zACT.length = 36) := Lib.hid rfl
        generalize zACT = ZA at HAACT HZA
        obtain ⟨CX, hCX⟩ : ∃ c, saC x = c := ⟨_, rfl⟩
        rw [hCX] at HRNG HSZA HLEN HONE
        have HCX := Lib.hid hCX
        have i0 : (0 : Int) ≤ (k : Int) := by omega
        have i1 : (k : Int) < (n1 : Int) := by omega
        obtain ⟨X, hX⟩ : ∃ X, wr.heap.size = X := ⟨_, rfl⟩
        have HX := Lib.hid hX
        clear hbl hx hok hpart hrng hlen hCX hX
        go_upto_region 10 with (first
          | ((with_reducible refine wpList_isS (o := ⟨some 54, .load _ _, _, _, _, _⟩) ?_); refine wpList_want (v := .agg CX.toArray) (w' := _) (by rfl) (exec_loadM rfl b (off + k * 36) rfl CX _ HRNG.out HUA.out rfl HSZA.out) ?_)
          | ((with_reducible refine wpList_isS (o := ⟨some 10, .alloc _, _, _, _, _⟩) ?_); refine wpList_allocT rfl 35 ZA (fun W => HAACT.out W _ rfl _) ?_; intro w3 HK3 HB3; rw [HX.out] at HK3 ⊢)
          | ((with_reducible refine wpList_isS (o := ⟨none, .store 35 _ _, _, _, _, _⟩) ?_); refine wpList_over rfl 35 _ _ rfl X CX ZA 35 rfl rfl HK3.out (by rw [HLEN.out, HZA.out]) HSZA.out HONE.out ?_; intro w4 HK4 hk4))
        have hBX : Below wr.heap.size wr w4 := below_keeps HB3.out hk4.out (Nat.le_refl _) (fun i hi => by rw [hi, HX.out]; exact Nat.le_refl _)
        have HST4 := Lib.hid (HST.out.below hBX)
        have HX8 : Hid (∀ i, (Value.slice A8 K.length c8).ownBlock = some i → i < X) := Lib.hid (fun i hi => by rw [← HX.out]; exact (own_base HST.out.kv i hi).2)
        clear hBX HB3 hk4 HK3
        have HCELL : Hid (∀ W, Blk W X 35 CX → W.cell? ⟨X, 0, none⟩ = some (.int .u8 x.kind) ∧ W.cell? ⟨X, 1, none⟩ = some (.slice x.A x.n x.c) ∧ W.cell? ⟨X, 2, none⟩ = some (.int .u32 x.spot) ∧ W.rangeAt X 3 (x.sum.map (Value.int .u8)) ∧ W.cell? ⟨X, 35, none⟩ = some (.int .i64 x.bytes)) := Lib.hid (fun W h => by
          rw [← HCX.out] at h
          have := sa_at (b := X) (o := 0) h.range HOKX.out.sum
          simpa using this)
        obtain ⟨k0, -, -, -, -⟩ := HCELL.out w4 HK4.out
        obtain ⟨kd, hkd⟩ : ∃ z, x.kind = z := ⟨_, rfl⟩
        have hk0 : 0 ≤ kd := by rw [← hkd]; exact HOKX.out.kind.1
        have hk1 : kd ≤ 255 := by rw [← hkd]; exact HOKX.out.kind.2
        rw [hkd] at k0 HCELL
        clear hkd
        obtain ⟨r, hr⟩ : ∃ r, kd % 8 = r := ⟨_, rfl⟩
        have hr0 : 0 ≤ r := by omega
        have hr7 : r ≤ 7 := by omega
        go_upto_block 2 with fail
        clear k0
        rw [hr]
        clear hr hk0 hk1
        have HBSL := Lib.hid (fun W => build_act1 CX HLEN.out W)
        go_cut [7, 8] (fun s7 s8 wc => ∃ (g2 : Nat) (L2 : List Spt) (cr2 : Int) (S2 : List Int) (K2 : List Sa), SureAt w wc p g2 L2 cr2 S2 K2 s7 s8 (k + 1))
        case first =>
          have hrr : r = 0 ∨ r = 1 ∨ r = 2 ∨ r = 3 ∨ r = 4 ∨ r = 5 ∨ r = 6 ∨ r = 7 := by omega
          clear hr0 hr7
          obtain ⟨d0, d1, d2, d3, d4⟩ := HCELL.out w4 HK4.out
          have hXg : X ≠ g' := blk_ne HK4.out HST4.out.set.row (by decide)
          have hXp : X ≠ p := blk_ne HK4.out HST4.out.set.set (by decide)
          have HXG := Lib.hid hXg
          have HXP := Lib.hid hXp
          clear hXg hXp d0
          have HSZM : Hid ((Try.prog.info? 33).map (·.size) = some (x.sum.map (Value.int .u8)).length) := Lib.hid (by rw [List.length_map, HOKX.out.sum]; kernel_rfl)
          rcases hrr with rfl | rfl | rfl | rfl | rfl | rfl | rfl | rfl
          · as_aux_lemma =>
            obtain ⟨lx, hlx⟩ : ∃ l, x.xs = l := ⟨_, rfl⟩
            obtain ⟨LA, hLA⟩ : ∃ l, x.A = l := ⟨_, rfl⟩
            obtain ⟨ln, hln⟩ : ∃ l, x.n = l := ⟨_, rfl⟩
            obtain ⟨lc, hlc⟩ : ∃ l, x.c = l := ⟨_, rfl⟩
            have HRL : Hid (Rd w .u32 LA ln lx) := Lib.hid (by have := HOKX.out.rd; rwa [hlx, hLA, hln] at this)
            have hle : ln ≤ lc := by have := HOKX.out.le; omega
            have hcap : lc ≤ 35184372087808 := by have := HOKX.out.cap; omega
            rw [hLA, hln, hlc] at d1
            have HCELL1 : Hid (∀ W, Blk W X 35 CX → W.cell? ⟨X, 1, none⟩ = some (.slice LA ln lc)) := Lib.hid (fun W h => by have := (HCELL.out W h).2.1; rwa [hLA, hln, hlc] at this)
            clear hlx hLA hln hlc d2 d3 d4
            have HCH := Lib.hid (change_any HST4.out.set LA ln lc lx (HRL.out.below HST4.out.bel) hle (by omega))
            go_wp2_with fail
            refine HCH.out.mono ?_; rintro e w5 (⟨hno, rfl, hS5, hB5⟩ | ⟨hok, A', G, rfl, hl, hG, hS5, hK5⟩)
            · have HN : Hid (SureAt w w5 p g' L cr S K (.slice A7 S.length c7) (.slice A8 K.length c8) (k + 1)) := Lib.hid (HST4.out.below hB5).next
              clear hno hS5 hB5 HCH
              go_wp2_with fail
              go_roundw
              case rel => exact ⟨k + 1, g', L, cr, S, K, by omega, by go_num, HN.out⟩
              case measure => simp [intOf]; omega
            · have HK5 := Lib.hid (HK4.out.keep hK5 (fun h => HXP.out h))
              have HSV5 := Lib.hid (hK5.own HST4.out.sv (fun j hj e => own_blk_ne HST4.out.sv HST4.out.set.set (by decide) (by rw [hj, e])))
              have HKV5 := Lib.hid (hK5.own HST4.out.kv (fun j hj e => own_blk_ne HST4.out.kv HST4.out.set.set (by decide) (by rw [hj, e])))
              have HB5 := Lib.hid (below_keeps HST4.out.bel hK5 (Nat.le_refl _) (fun i hi => by rw [hi]; exact HP.out))
              have HS5 := Lib.hid hS5
              have HGB := Lib.hid (Nat.le_trans HST4.out.bel.size hG)
              have HINV := Lib.hid (sure_change HST4.out.inv HRL.out.len hok)
              have HND := Lib.hid (nodup_of HRL.out.len hok)
              have hn4 : 1 ≤ ln ∧ ln ≤ 4 := ⟨hok.1, hok.2.1⟩
              obtain ⟨b2, o2, rfl, hbl, hcl⟩ := HRL.out.row (by omega)
              have HLL := Lib.hid HRL.out.len
              have HCL : Hid (∀ W, Below w5.heap.size w5 W → ∀ j a, lx[j]? = some a → W.cell? ⟨b2, o2 + j, none⟩ = some (.int .u32 a)) := Lib.hid (fun W hW j a ha => by
                have hj : j < ln := by have := (List.getElem?_eq_some_iff.1 ha).1; have := HRL.out.len; omega
                have := ((HB5.out.trans (hW.mono HB5.out.size)).cell (p := ⟨b2, o2 + j, none⟩) hbl).trans (hcl j hj)
                rwa [ha] at this)
              have HCS : Hid (∀ W, Below w5.heap.size w5 W → 0 < S.length → ∃ g7, A7 = some ⟨g7, 0, none⟩ ∧ ∀ i b, S[i]? = some b → W.cell? ⟨g7, i, none⟩ = some (.int .u32 b)) := Lib.hid (fun W hW h0 => by
                obtain ⟨hl, A', c', he, _, _, hrow⟩ := own_ints HSV5.out
                injection he with he1 he2 he3
                subst he1
                obtain ⟨g7, hA, _, hgl, hcells⟩ := hrow h0
                refine ⟨g7, hA, fun i b hb => ?_⟩
                have hi := (List.getElem?_eq_some_iff.1 hb).1
                rw [hW.cell (p := ⟨g7, i, none⟩) hgl, hcells i hi, hb]; rfl)
              have HKC : Hid (∀ W, Below w5.heap.size w5 W → 0 < K.length → ∃ g8, A8 = some ⟨g8, 0, none⟩ ∧ ∀ m y, K[m]? = some y → W.rangeAt g8 (m * 36) (saC y)) := Lib.hid (fun W hW h0 => by
                obtain ⟨g8, e, hl, hr⟩ := rowA_at HKV5.out HST4.out.kok h0
                exact ⟨g8, e, fun m y hy i v hv => (hW.cell (p := ⟨g8, m * 36 + i, none⟩) hl).trans (hr m y hy i v hv)⟩)
              have HX1 : Hid (∀ W, Below w5.heap.size w5 W → W.cell? ⟨X, 1, none⟩ = some (.slice (some ⟨b2, o2, none⟩) ln lc)) := Lib.hid (fun W hW => HCELL1.out W (HK5.out.below hW HK5.out.lt))
              obtain ⟨m7, hm7⟩ : ∃ n, S.length = n := ⟨_, rfl⟩
              obtain ⟨kl, hkl⟩ : ∃ n, K.length = n := ⟨_, rfl⟩
              have HM7 := Lib.hid hm7
              have HKL := Lib.hid hkl
              have hm7k : m7 ≤ k + 1 := by rw [← hm7]; exact HST4.out.sl
              have hklk : kl ≤ k := by rw [← hkl]; exact HST4.out.kl
              obtain ⟨mo, hmo⟩ : ∃ n, (othersL L lx).length = n := ⟨_, rfl⟩
              rw [hm7, hkl, hmo]
              have HKOK := Lib.hid HST4.out.kok
              clear hok hl hG hS5 hK5 hbl hcl hm7 hkl hmo HCH d1
              obtain ⟨wo, hwo⟩ : ∃ wo : World, wo = wr := ⟨_, rfl⟩
              subst hwo
              go_wp2_with fail
              go_loopw [18, 19, 20] (fun v18 v19 i wr => ∃ j : Nat, j ≤ ln ∧ i = .int .i64 j ∧ wr.ownsRow w5.heap.size 23 1 v18 (pickX id S (lx.take j)).length ((pickX id S (lx.take j)).map (Value.int .u32)) ∧ wr.ownsRow w5.heap.size 35 36 v19 (pickX (·.spot) K (lx.take j)).length (flatA (pickX (·.spot) K (lx.take j))) ∧ Below w5.heap.size w5 wr) (fun _ _ i _ => ln - (intOf i).toNat)
              case atStart => exact ⟨0, Nat.zero_le _, rfl, own_nil _ _ _ _, own_nil _ _ _ _, Below.refl _ _⟩
              case round =>
                obtain ⟨j, hj, rfl, ho18, ho19, hB6⟩ := hrel
                obtain ⟨A18, c18, rfl, h18c, h18m, -⟩ := own_slice ho18
                obtain ⟨A19, c19, rfl, h19c, h19m, -⟩ := own_slice ho19
                have HB6 := Lib.hid hB6
                have HO18 := Lib.hid ho18
                have HO19 := Lib.hid ho19
                have cx := HX1.out wr hB6
                clear ho18 ho19 hB6
                by_cases hjl : j < ln
                · obtain ⟨a, ha⟩ : ∃ a, lx[j]? = some a := ⟨_, List.getElem?_eq_getElem (by rw [HLL.out]; exact hjl)⟩
                  have HNXS := Lib.hid (pickX_next id S ha)
                  have HNXK := Lib.hid (pickX_next (fun y : Sa => y.spot) K ha)
                  have hndt : (lx.take (j + 1)).Nodup := List.Pairwise.sublist (List.take_sublist _ _) HND.out
                  have HLS := Lib.hid (pickX_len id (lx.take (j + 1)) hndt S)
                  have HLK := Lib.hid (pickX_len (fun y : Sa => y.spot) (lx.take (j + 1)) hndt K)
                  have HCLA : Hid (∀ W, Below w5.heap.size w5 W → W.cell? ⟨b2, o2 + j, none⟩ = some (.int .u32 a)) := Lib.hid (fun W hW => HCL.out W hW j a ha)
                  obtain ⟨ps, hps⟩ : ∃ l, pickX id S (lx.take j) = l := ⟨_, rfl⟩
                  obtain ⟨ks, hks⟩ : ∃ l, pickX (fun y : Sa => y.spot) K (lx.take j) = l := ⟨_, rfl⟩
                  rw [hps] at HO18 HNXS h18c ⊢
                  rw [hks] at HO19 HNXK h19c ⊢
                  have j0 : (0 : Int) ≤ (j : Int) := by omega
                  have j1 : (j : Int) < (ln : Int) := by omega
                  clear ha hps hks hndt
                  obtain ⟨w6, hw6⟩ : ∃ w6 : World, w6 = wr := ⟨_, rfl⟩
                  subst hw6
                  go_wp2_with fail
                  go_loopw [18, 21] (fun v i wr => ∃ m : Nat, m ≤ m7 ∧ i = .int .i64 m ∧ wr.ownsRow w5.heap.size 23 1 v (ps ++ (S.take m).filter (fun y => id y == a)).length ((ps ++ (S.take m).filter (fun y => id y == a)).map (Value.int .u32)) ∧ wr.ownsRow w5.heap.size 35 36 (.slice A19 ks.length c19) ks.length (flatA ks) ∧ Below w5.heap.size w5 wr) (fun _ i _ => m7 - (intOf i).toNat)
                  case atStart => exact ⟨0, Nat.zero_le _, rfl, by simpa using HO18.out, HO19.out, HB6.out⟩
                  case round =>
                    obtain ⟨m, hm, rfl, ho, hoK, hB7⟩ := hrel
                    obtain ⟨AV, cv, rfl, hvc, hvm, -⟩ := own_slice ho
                    have HB7 := Lib.hid hB7
                    have HO := Lib.hid ho
                    have HOK := Lib.hid hoK
                    by_cases hml : m < m7
                    · obtain ⟨b, hb⟩ : ∃ b, S[m]? = some b := ⟨_, List.getElem?_eq_getElem (by rw [HM7.out]; exact hml)⟩
                      obtain ⟨g7, rfl, hc7⟩ := HCS.out wr hB7 (by rw [HM7.out]; omega)
                      have cs := hc7 m b hb
                      have cl := HCLA.out wr hB7
                      have cx1 := HX1.out wr hB7
                      have HFN := Lib.hid (filter_next (fun y : Int => id y == a) hb)
                      have hlen : (ps ++ (S.take m).filter (fun y => id y == a)).length ≤ 2 * k + 2 := by
                        have h1 := HLS.out
                        rw [HNXS.out, List.length_append] at h1
                        have h2 := List.length_filter_le (fun y : Int => id y == a) (S.take m)
                        have h3 : (S.take m).length ≤ m := List.length_take_le _ _
                        have h4 := HM7.out
                        rw [List.length_append]
                        omega
                      obtain ⟨qs, hqs⟩ : ∃ l, ps ++ (S.take m).filter (fun y => id y == a) = l := ⟨_, rfl⟩
                      rw [hqs] at HO hlen hvc ⊢
                      have HQS := Lib.hid hqs
                      have m0 : (0 : Int) ≤ (m : Int) := by omega
                      have m1 : (m : Int) < (m7 : Int) := by omega
                      clear ho hoK hB7 hb hc7 hqs
                      by_cases hba : b = a
                      · have hq1 : (b == a) = true := beq_iff_eq.2 hba
                        subst hba
                        go_wp2_with fail
                        refine wp_region_noPanic ?_
                        refine wp_region_held_drew (S := (fun w' => w'.cell? ⟨g7, m, none⟩ = some (.int .u32 b) ∧ w'.cell? ⟨X, 1, none⟩ = some (.slice (some ⟨b2, o2, none⟩) ln lc) ∧ w'.cell? ⟨b2, o2 + j, none⟩ = some (.int .u32 b))) (by kernel_rfl) ?_ (fun hHeld => ?_)
                        · ((try dsimp only); refine ⟨?_, ?_, ?_⟩ <;> (first | assumption | (go_keep; done)))
                        refine wpAnyH_take (i := 0) (oi := ⟨some 80, _, _, _, _, _⟩) (v := ?_) rfl (by kernel_rfl) (by kernel_rfl) (by kernel_rfl) (fun _ _ _ h => False.elim h) (Or.inl ⟨by rfl, ?_⟩) (by assumption) ?_
                        rotate_left
                        · intro w hSw
                          (try dsimp only at hSw)
                          go_simp
                          all_goals with_reducible rfl
                        (try simp only [Act.put, List.setIfInBounds_toArray, List.set_cons_zero, List.set_cons_succ])
                        refine wpAnyH_take (i := 1) (oi := ⟨some 81, _, _, _, _, _⟩) (v := ?_) rfl (by kernel_rfl) (by kernel_rfl) (by kernel_rfl) (fun _ _ _ h => False.elim h) (Or.inl ⟨by rfl, ?_⟩) (by assumption) ?_
                        rotate_left
                        · intro w hSw
                          (try dsimp only at hSw)
                          go_simp
                          all_goals with_reducible rfl
                        (try simp only [Act.put, List.setIfInBounds_toArray, List.set_cons_zero, List.set_cons_succ])
                        refine wpAnyH_take (i := 2) (oi := ⟨some 82, _, _, _, _, _⟩) (v := ?_) rfl (by kernel_rfl) (by kernel_rfl) (by kernel_rfl) (fun _ _ _ h => False.elim h) (Or.inl ⟨by rfl, ?_⟩) (by assumption) ?_
                        rotate_left
                        · intro w hSw
                          (try dsimp only at hSw)
                          go_simp
                          all_goals with_reducible rfl
                        (try simp only [Act.put, List.setIfInBounds_toArray, List.set_cons_zero, List.set_cons_succ])
                        refine wpAnyH_take (i := 3) (oi := ⟨some 83, _, _, _, _, _⟩) (v := ?_) rfl (by kernel_rfl) (by kernel_rfl) (by kernel_rfl) (fun _ _ _ h => False.elim h) (Or.inl ⟨by rfl, ?_⟩) (by assumption) ?_
                        rotate_left
                        · intro w hSw
                          (try dsimp only at hSw)
                          go_simp
                          all_goals with_reducible rfl
                        (try simp only [Act.put, List.setIfInBounds_toArray, List.set_cons_zero, List.set_cons_succ])
                        refine wpAnyH_take (i := 4) (oi := ⟨some 84, _, _, _, _, _⟩) (v := ?_) rfl (by kernel_rfl) (by kernel_rfl) (by kernel_rfl) (fun _ _ _ h => False.elim h) (Or.inl ⟨by rfl, ?_⟩) (by assumption) ?_
                        rotate_left
                        · intro w hSw
                          (try dsimp only at hSw)
                          go_simp
                          all_goals with_reducible rfl
                        (try simp only [Act.put, List.setIfInBounds_toArray, List.set_cons_zero, List.set_cons_succ])
                        refine wpAnyH_take (i := 5) (oi := ⟨some 85, _, _, _, _, _⟩) (v := ?_) rfl (by kernel_rfl) (by kernel_rfl) (by kernel_rfl) (fun _ _ _ h => False.elim h) (Or.inl ⟨by rfl, ?_⟩) (by assumption) ?_
                        rotate_left
                        · intro w hSw
                          (try dsimp only at hSw)
                          go_simp
                          all_goals with_reducible rfl
                        (try simp only [Act.put, List.setIfInBounds_toArray, List.set_cons_zero, List.set_cons_succ])
                        refine wpAnyH_take (i := 6) (oi := ⟨some 86, _, _, _, _, _⟩) (v := ?_) rfl (by kernel_rfl) (by kernel_rfl) (by kernel_rfl) (fun _ _ _ h => False.elim h) (Or.inl ⟨by rfl, ?_⟩) (by assumption) ?_
                        rotate_left
                        · intro w hSw
                          (try dsimp only at hSw)
                          go_simp
                          all_goals with_reducible rfl
                        (try simp only [Act.put, List.setIfInBounds_toArray, List.set_cons_zero, List.set_cons_succ])
                        refine wpAnyH_take (i := 7) (oi := ⟨some 87, _, _, _, _, _⟩) (v := ?_) rfl (by kernel_rfl) (by kernel_rfl) (by kernel_rfl) (fun _ _ _ h => False.elim h) (Or.inl ⟨by rfl, ?_⟩) (by assumption) ?_
                        rotate_left
                        · intro w hSw
                          (try dsimp only at hSw)
                          go_simp
                          all_goals with_reducible rfl
                        (try simp only [Act.put, List.setIfInBounds_toArray, List.set_cons_zero, List.set_cons_succ])
                        refine wpAnyH_take (i := 8) (oi := ⟨some 88, _, _, _, _, _⟩) (v := ?_) rfl (by kernel_rfl) (by kernel_rfl) (by kernel_rfl) (fun _ _ _ h => False.elim h) (Or.inl ⟨by rfl, ?_⟩) (by assumption) ?_
                        rotate_left
                        · intro w hSw
                          (try dsimp only at hSw)
                          go_simp
                          all_goals with_reducible rfl
                        (try simp only [Act.put, List.setIfInBounds_toArray, List.set_cons_zero, List.set_cons_succ])
                        refine wpAnyH_take (i := 9) (oi := ⟨some 89, _, _, _, _, _⟩) (v := ?_) rfl (by kernel_rfl) (by kernel_rfl) (by kernel_rfl) (fun _ _ _ h => False.elim h) (Or.inl ⟨by rfl, ?_⟩) (by assumption) ?_
                        rotate_left
                        · intro w hSw
                          (try dsimp only at hSw)
                          go_simp
                          all_goals with_reducible rfl
                        (try simp only [Act.put, List.setIfInBounds_toArray, List.set_cons_zero, List.set_cons_succ])
                        refine wpAnyH_done (by kernel_rfl) ?_ _
                        refine NoPanic.normal ?_
                        have HOD : Hid (wr.drew.ownsRow w5.heap.size 23 1 (.slice AV qs.length cv) qs.length (qs.map (Value.int .u32))) := Lib.hid (((Keeps.refl (fun _ => False) wr).drew).own HO.out (fun _ _ h => h))
                        have HOKD : Hid (wr.drew.ownsRow w5.heap.size 35 36 (.slice A19 ks.length c19) ks.length (flatA ks)) := Lib.hid (((Keeps.refl (fun _ => False) wr).drew).own HOK.out (fun _ _ h => h))
                        have HBD : Hid (Below w5.heap.size w5 wr.drew) := Lib.hid HB7.out.drew
                        generalize wr.drew = w8 at *
                        go_wp2_with (at_builtin; refine append_int (W := w8) w5.heap.size rfl _ _ 31 23 .u32 4 rfl Try.underlying31 info_spotS (by omega) (.slice AV qs.length cv) qs.length qs b rfl rfl HOD.out HBD.out.size (by omega) ?_; intro v1 w9 ho9 hk9 _; have HO9 := Lib.hid ho9; have HK9 := Lib.hid hk9; clear ho9 hk9)
                        go_roundw
                        case rel =>
                          refine ⟨m + 1, by omega, by go_num, ?_, HK9.out.own HOKD.out (own_own_ne HOKD.out HOD.out (by decide)), below_keeps HBD.out HK9.out (Nat.le_refl _) (fun i hi => (own_base HOD.out i hi).1)⟩
                          rw [HFN.out, if_pos (by simp), ← List.append_assoc, HQS.out, List.length_append]
                          exact HO9.out
                        case measure => simp [intOf]; omega
                      · have hq1 : (b == a) = false := beq_eq_false_iff_ne.2 hba
                        go_wp2_with fail
                        refine wp_region_noPanic ?_
                        refine wp_region_held_drew (S := (fun w' => w'.cell? ⟨g7, m, none⟩ = some (.int .u32 b) ∧ w'.cell? ⟨X, 1, none⟩ = some (.slice (some ⟨b2, o2, none⟩) ln lc) ∧ w'.cell? ⟨b2, o2 + j, none⟩ = some (.int .u32 a))) (by kernel_rfl) ?_ (fun hHeld => ?_)
                        · ((try dsimp only); refine ⟨?_, ?_, ?_⟩ <;> (first | assumption | (go_keep; done)))
                        refine wpAnyH_take (i := 0) (oi := ⟨some 80, _, _, _, _, _⟩) (v := ?_) rfl (by kernel_rfl) (by kernel_rfl) (by kernel_rfl) (fun _ _ _ h => False.elim h) (Or.inl ⟨by rfl, ?_⟩) (by assumption) ?_
                        rotate_left
                        · intro w hSw
                          (try dsimp only at hSw)
                          go_simp
                          all_goals with_reducible rfl
                        (try simp only [Act.put, List.setIfInBounds_toArray, List.set_cons_zero, List.set_cons_succ])
                        refine wpAnyH_take (i := 1) (oi := ⟨some 81, _, _, _, _, _⟩) (v := ?_) rfl (by kernel_rfl) (by kernel_rfl) (by kernel_rfl) (fun _ _ _ h => False.elim h) (Or.inl ⟨by rfl, ?_⟩) (by assumption) ?_
                        rotate_left
                        · intro w hSw
                          (try dsimp only at hSw)
                          go_simp
                          all_goals with_reducible rfl
                        (try simp only [Act.put, List.setIfInBounds_toArray, List.set_cons_zero, List.set_cons_succ])
                        refine wpAnyH_take (i := 2) (oi := ⟨some 82, _, _, _, _, _⟩) (v := ?_) rfl (by kernel_rfl) (by kernel_rfl) (by kernel_rfl) (fun _ _ _ h => False.elim h) (Or.inl ⟨by rfl, ?_⟩) (by assumption) ?_
                        rotate_left
                        · intro w hSw
                          (try dsimp only at hSw)
                          go_simp
                          all_goals with_reducible rfl
                        (try simp only [Act.put, List.setIfInBounds_toArray, List.set_cons_zero, List.set_cons_succ])
                        refine wpAnyH_take (i := 3) (oi := ⟨some 83, _, _, _, _, _⟩) (v := ?_) rfl (by kernel_rfl) (by kernel_rfl) (by kernel_rfl) (fun _ _ _ h => False.elim h) (Or.inl ⟨by rfl, ?_⟩) (by assumption) ?_
                        rotate_left
                        · intro w hSw
                          (try dsimp only at hSw)
                          go_simp
                          all_goals with_reducible rfl
                        (try simp only [Act.put, List.setIfInBounds_toArray, List.set_cons_zero, List.set_cons_succ])
                        refine wpAnyH_take (i := 4) (oi := ⟨some 84, _, _, _, _, _⟩) (v := ?_) rfl (by kernel_rfl) (by kernel_rfl) (by kernel_rfl) (fun _ _ _ h => False.elim h) (Or.inl ⟨by rfl, ?_⟩) (by assumption) ?_
                        rotate_left
                        · intro w hSw
                          (try dsimp only at hSw)
                          go_simp
                          all_goals with_reducible rfl
                        (try simp only [Act.put, List.setIfInBounds_toArray, List.set_cons_zero, List.set_cons_succ])
                        refine wpAnyH_take (i := 5) (oi := ⟨some 85, _, _, _, _, _⟩) (v := ?_) rfl (by kernel_rfl) (by kernel_rfl) (by kernel_rfl) (fun _ _ _ h => False.elim h) (Or.inl ⟨by rfl, ?_⟩) (by assumption) ?_
                        rotate_left
                        · intro w hSw
                          (try dsimp only at hSw)
                          go_simp
                          all_goals with_reducible rfl
                        (try simp only [Act.put, List.setIfInBounds_toArray, List.set_cons_zero, List.set_cons_succ])
                        refine wpAnyH_take (i := 6) (oi := ⟨some 86, _, _, _, _, _⟩) (v := ?_) rfl (by kernel_rfl) (by kernel_rfl) (by kernel_rfl) (fun _ _ _ h => False.elim h) (Or.inl ⟨by rfl, ?_⟩) (by assumption) ?_
                        rotate_left
                        · intro w hSw
                          (try dsimp only at hSw)
                          go_simp
                          all_goals with_reducible rfl
                        (try simp only [Act.put, List.setIfInBounds_toArray, List.set_cons_zero, List.set_cons_succ])
                        refine wpAnyH_take (i := 7) (oi := ⟨some 87, _, _, _, _, _⟩) (v := ?_) rfl (by kernel_rfl) (by kernel_rfl) (by kernel_rfl) (fun _ _ _ h => False.elim h) (Or.inl ⟨by rfl, ?_⟩) (by assumption) ?_
                        rotate_left
                        · intro w hSw
                          (try dsimp only at hSw)
                          go_simp
                          all_goals with_reducible rfl
                        (try simp only [Act.put, List.setIfInBounds_toArray, List.set_cons_zero, List.set_cons_succ])
                        refine wpAnyH_take (i := 8) (oi := ⟨some 88, _, _, _, _, _⟩) (v := ?_) rfl (by kernel_rfl) (by kernel_rfl) (by kernel_rfl) (fun _ _ _ h => False.elim h) (Or.inl ⟨by rfl, ?_⟩) (by assumption) ?_
                        rotate_left
                        · intro w hSw
                          (try dsimp only at hSw)
                          go_simp
                          all_goals with_reducible rfl
                        (try simp only [Act.put, List.setIfInBounds_toArray, List.set_cons_zero, List.set_cons_succ])
                        refine wpAnyH_take (i := 9) (oi := ⟨some 89, _, _, _, _, _⟩) (v := ?_) rfl (by kernel_rfl) (by kernel_rfl) (by kernel_rfl) (fun _ _ _ h => False.elim h) (Or.inl ⟨by rfl, ?_⟩) (by assumption) ?_
                        rotate_left
                        · intro w hSw
                          (try dsimp only at hSw)
                          go_simp
                          all_goals with_reducible rfl
                        (try simp only [Act.put, List.setIfInBounds_toArray, List.set_cons_zero, List.set_cons_succ])
                        refine wpAnyH_done (by kernel_rfl) ?_ _
                        refine NoPanic.normal ?_
                        go_wp2_with fail
                        go_roundw
                        case rel =>
                          refine ⟨m + 1, by omega, by go_num, ?_, ((Keeps.refl (fun _ => False) wr).drew).own HOK.out (fun _ _ h => h), HB7.out.drew⟩
                          rw [HFN.out, if_neg (by simpa using hba), List.append_nil, HQS.out]
                          exact ((Keeps.refl (fun _ => False) wr).drew).own HO.out (fun _ _ h => h)
                        case measure => simp [intOf]; omega
                    · obtain rfl : m = m7 := by omega
                      have e7 : S.take m = S := List.take_of_length_le (by rw [HM7.out]; omega)
                      rw [e7, ← HNXS.out] at ho hvc ⊢
                      have HO7 := Lib.hid ho
                      obtain ⟨t18, ht18⟩ : ∃ l, pickX id S (lx.take (j + 1)) = l := ⟨_, rfl⟩
                      rw [ht18] at HO7 hvc ⊢
                      have HT18 := Lib.hid ht18
                      clear ho hoK hB7 e7 ht18
                      obtain ⟨w7, hw7⟩ : ∃ w7 : World, w7 = wr := ⟨_, rfl⟩
                      subst hw7
                      go_wp2_with fail
                      go_loopw [19, 22] (fun v i wr => ∃ m : Nat, m ≤ kl ∧ i = .int .i64 m ∧ wr.ownsRow w5.heap.size 35 36 v (ks ++ (K.take m).filter (fun y => y.spot == a)).length (flatA (ks ++ (K.take m).filter (fun y => y.spot == a))) ∧ wr.ownsRow w5.heap.size 23 1 (.slice AV t18.length cv) t18.length (t18.map (Value.int .u32)) ∧ Below w5.heap.size w5 wr) (fun _ i _ => kl - (intOf i).toNat)
                      case atStart => exact ⟨0, Nat.zero_le _, rfl, by simpa using HOK.out, HO7.out, HB7.out⟩
                      case round =>
                        obtain ⟨q, hq, rfl, ho, hoS, hB8⟩ := hrel
                        obtain ⟨BV, dv, rfl, hwc, hwm, -⟩ := own_slice ho
                        have HB8 := Lib.hid hB8
                        have HO8 := Lib.hid ho
                        have HOS := Lib.hid hoS
                        by_cases hql : q < kl
                        · obtain ⟨y, hy⟩ : ∃ y, K[q]? = some y := ⟨_, List.getElem?_eq_getElem (by rw [HKL.out]; exact hql)⟩
                          obtain ⟨g8, rfl, hc8⟩ := HKC.out wr hB8 (by rw [HKL.out]; omega)
                          have hys := HKOK.out y (List.mem_of_getElem? hy)
                          have hrg := hc8 q y hy
                          obtain ⟨-, -, y2, -, -⟩ := sa_at hrg hys
                          have cl := HCLA.out wr hB8
                          have cx1 := HX1.out wr hB8
                          have hfn := filter_next (fun z : Sa => z.spot == a) hy
                          have HFN := Lib.hid hfn
                          have HRGY := Lib.hid hrg
                          have HYL := Lib.hid (saC_length hys)
                          have HY1 := Lib.hid (saC_one y)
                          have HSZY : Hid ((Try.prog.info? 35).map (·.size) = some (saC y).length) := Lib.hid (by rw [saC_length hys]; exact size_act)
                          have HBY := Lib.hid (fun W => build_act1 (saC y) (saC_length hys) W)
                          have hlen : (y.spot == a) = true → (ks ++ (K.take q).filter (fun z => z.spot == a)).length + 1 ≤ kl := fun hyt => by
                            have h1 := HLK.out
                            rw [HNXK.out, List.length_append, HKL.out] at h1
                            have h2 : ((K.take (q + 1)).filter (fun z : Sa => z.spot == a)).length ≤ (K.filter (fun z : Sa => z.spot == a)).length := ((List.take_sublist _ _).filter _).length_le
                            rw [hfn, if_pos hyt, List.length_append] at h2
                            rw [List.length_append]
                            simp at h2
                            omega
                          obtain ⟨qs, hqs⟩ : ∃ l, ks ++ (K.take q).filter (fun z => z.spot == a) = l := ⟨_, rfl⟩
                          rw [hqs] at HO8 hlen hwc ⊢
                          have HQS := Lib.hid hqs
                          have m0 : (0 : Int) ≤ (q : Int) := by omega
                          have m1 : (q : Int) < (kl : Int) := by omega
                          clear ho hoS hB8 hy hc8 hqs hys hrg hfn
                          by_cases hba : y.spot = a
                          · have hq1 : (y.spot == a) = true := beq_iff_eq.2 hba
                            have hk80 : (qs.length + 1) * 80 ≤ 140737488355328 := by have := hlen hq1; omega
                            have HFN2 : Hid ((K.take (q + 1)).filter (fun z => z.spot == a) = (K.take q).filter (fun z => z.spot == a) ++ [y]) := Lib.hid (by rw [HFN.out, if_pos hq1])
                            have hrr : wr.cell? ⟨g8, q * 36 + 2, none⟩ = some (.int .u32 a) := by rw [← hba]; exact y2
                            clear hlen hba y2 hq1
                            obtain ⟨Y, hY⟩ : ∃ Y, saC y = Y := ⟨_, rfl⟩
                            rw [hY] at HRGY HYL HY1 HSZY HBY
                            have HYY := Lib.hid hY
                            clear hY
                            go_wp2_with fail
                            refine wp_region_noPanic ?_
                            refine wp_region_held_drew (S := (fun w' => w'.cell? ⟨g8, q * 36 + 2, none⟩ = some (.int .u32 a) ∧ w'.cell? ⟨X, 1, none⟩ = some (.slice (some ⟨b2, o2, none⟩) ln lc) ∧ w'.cell? ⟨b2, o2 + j, none⟩ = some (.int .u32 a))) (by kernel_rfl) ?_ (fun hHeld => ?_)
                            · ((try dsimp only); refine ⟨?_, ?_, ?_⟩ <;> (first | assumption | (go_keep; done)))
                            refine wpAnyH_take (i := 0) (oi := ⟨some 104, _, _, _, _, _⟩) (v := ?_) rfl (by kernel_rfl) (by kernel_rfl) (by kernel_rfl) (fun _ _ _ h => False.elim h) (Or.inl ⟨by rfl, ?_⟩) (by assumption) ?_
                            rotate_left
                            · intro w hSw
                              (try dsimp only at hSw)
                              go_simp
                              all_goals with_reducible rfl
                            (try simp only [Act.put, List.setIfInBounds_toArray, List.set_cons_zero, List.set_cons_succ])
                            refine wpAnyH_take (i := 1) (oi := ⟨some 105, _, _, _, _, _⟩) (v := ?_) rfl (by kernel_rfl) (by kernel_rfl) (by kernel_rfl) (fun _ _ _ h => False.elim h) (Or.inl ⟨by rfl, ?_⟩) (by assumption) ?_
                            rotate_left
                            · intro w hSw
                              (try dsimp only at hSw)
                              go_simp
                              all_goals with_reducible rfl
                            (try simp only [Act.put, List.setIfInBounds_toArray, List.set_cons_zero, List.set_cons_succ])
                            refine wpAnyH_take (i := 2) (oi := ⟨some 106, _, _, _, _, _⟩) (v := ?_) rfl (by kernel_rfl) (by kernel_rfl) (by kernel_rfl) (fun _ _ _ h => False.elim h) (Or.inl ⟨by rfl, ?_⟩) (by assumption) ?_
                            rotate_left
                            · intro w hSw
                              (try dsimp only at hSw)
                              go_simp
                              all_goals with_reducible rfl
                            (try simp only [Act.put, List.setIfInBounds_toArray, List.set_cons_zero, List.set_cons_succ])
                            refine wpAnyH_take (i := 3) (oi := ⟨some 107, _, _, _, _, _⟩) (v := ?_) rfl (by kernel_rfl) (by kernel_rfl) (by kernel_rfl) (fun _ _ _ h => False.elim h) (Or.inl ⟨by rfl, ?_⟩) (by assumption) ?_
                            rotate_left
                            · intro w hSw
                              (try dsimp only at hSw)
                              go_simp
                              all_goals with_reducible rfl
                            (try simp only [Act.put, List.setIfInBounds_toArray, List.set_cons_zero, List.set_cons_succ])
                            refine wpAnyH_take (i := 4) (oi := ⟨some 108, _, _, _, _, _⟩) (v := ?_) rfl (by kernel_rfl) (by kernel_rfl) (by kernel_rfl) (fun _ _ _ h => False.elim h) (Or.inl ⟨by rfl, ?_⟩) (by assumption) ?_
                            rotate_left
                            · intro w hSw
                              (try dsimp only at hSw)
                              go_simp
                              all_goals with_reducible rfl
                            (try simp only [Act.put, List.setIfInBounds_toArray, List.set_cons_zero, List.set_cons_succ])
                            refine wpAnyH_take (i := 5) (oi := ⟨some 109, _, _, _, _, _⟩) (v := ?_) rfl (by kernel_rfl) (by kernel_rfl) (by kernel_rfl) (fun _ _ _ h => False.elim h) (Or.inl ⟨by rfl, ?_⟩) (by assumption) ?_
                            rotate_left
                            · intro w hSw
                              (try dsimp only at hSw)
                              go_simp
                              all_goals with_reducible rfl
                            (try simp only [Act.put, List.setIfInBounds_toArray, List.set_cons_zero, List.set_cons_succ])
                            refine wpAnyH_take (i := 6) (oi := ⟨some 110, _, _, _, _, _⟩) (v := ?_) rfl (by kernel_rfl) (by kernel_rfl) (by kernel_rfl) (fun _ _ _ h => False.elim h) (Or.inl ⟨by rfl, ?_⟩) (by assumption) ?_
                            rotate_left
                            · intro w hSw
                              (try dsimp only at hSw)
                              go_simp
                              all_goals with_reducible rfl
                            (try simp only [Act.put, List.setIfInBounds_toArray, List.set_cons_zero, List.set_cons_succ])
                            refine wpAnyH_take (i := 7) (oi := ⟨some 111, _, _, _, _, _⟩) (v := ?_) rfl (by kernel_rfl) (by kernel_rfl) (by kernel_rfl) (fun _ _ _ h => False.elim h) (Or.inl ⟨by rfl, ?_⟩) (by assumption) ?_
                            rotate_left
                            · intro w hSw
                              (try dsimp only at hSw)
                              go_simp
                              all_goals with_reducible rfl
                            (try simp only [Act.put, List.setIfInBounds_toArray, List.set_cons_zero, List.set_cons_succ])
                            refine wpAnyH_take (i := 8) (oi := ⟨some 112, _, _, _, _, _⟩) (v := ?_) rfl (by kernel_rfl) (by kernel_rfl) (by kernel_rfl) (fun _ _ _ h => False.elim h) (Or.inl ⟨by rfl, ?_⟩) (by assumption) ?_
                            rotate_left
                            · intro w hSw
                              (try dsimp only at hSw)
                              go_simp
                              all_goals with_reducible rfl
                            (try simp only [Act.put, List.setIfInBounds_toArray, List.set_cons_zero, List.set_cons_succ])
                            refine wpAnyH_take (i := 9) (oi := ⟨some 113, _, _, _, _, _⟩) (v := ?_) rfl (by kernel_rfl) (by kernel_rfl) (by kernel_rfl) (fun _ _ _ h => False.elim h) (Or.inl ⟨by rfl, ?_⟩) (by assumption) ?_
                            rotate_left
                            · intro w hSw
                              (try dsimp only at hSw)
                              go_simp
                              all_goals with_reducible rfl
                            (try simp only [Act.put, List.setIfInBounds_toArray, List.set_cons_zero, List.set_cons_succ])
                            refine wpAnyH_take (i := 10) (oi := ⟨some 114, _, _, _, _, _⟩) (v := ?_) rfl (by kernel_rfl) (by kernel_rfl) (by kernel_rfl) (fun _ _ _ h => False.elim h) (Or.inl ⟨by rfl, ?_⟩) (by assumption) ?_
                            rotate_left
                            · intro w hSw
                              (try dsimp only at hSw)
                              go_simp
                              all_goals with_reducible rfl
                            (try simp only [Act.put, List.setIfInBounds_toArray, List.set_cons_zero, List.set_cons_succ])
                            refine wpAnyH_done (by kernel_rfl) ?_ _
                            refine NoPanic.normal ?_
                            have HOD : Hid (wr.drew.ownsRow w5.heap.size 35 36 (.slice BV qs.length dv) qs.length (flatA qs)) := Lib.hid (((Keeps.refl (fun _ => False) wr).drew).own HO8.out (fun _ _ h => h))
                            have HOSD : Hid (wr.drew.ownsRow w5.heap.size 23 1 (.slice AV t18.length cv) t18.length (t18.map (Value.int .u32))) := Lib.hid (((Keeps.refl (fun _ => False) wr).drew).own HOS.out (fun _ _ h => h))
                            have HBD : Hid (Below w5.heap.size w5 wr.drew) := Lib.hid HB8.out.drew
                            have HRD : Hid (wr.drew.rangeAt g8 (q * 36) Y) := Lib.hid HRGY.out
                            generalize wr.drew = w8 at *
                            go_wp2_with (first
                              | ((with_reducible refine wpList_isS (o := ⟨some 119, .load _ _, _, _, _, _⟩) ?_); refine wpList_want (v := .agg Y.toArray) (w' := _) (by rfl) (exec_loadM rfl g8 (q * 36) rfl Y _ HRD.out HUA.out rfl HSZY.out) ?_)
                              | ((with_reducible refine wpList_isS (o := ⟨some 120, .buildSlice _ _ _, _, _, _, _⟩) ?_); refine wpList_value (o := ⟨some 120, .buildSlice 24 1 _, _, _, _, _⟩) (v := .slice (some ⟨w8.heap.size, 0, none⟩) 1 1) (w' := w8.alloc (.cells Y.toArray 35)) rfl (by unfold execOp; simp only [Act.eval, Act.put]; simp [HBY.out]) ?_)
                              | (at_builtin; refine append_one (W := w8) w5.heap.size rfl _ _ 24 35 (.agg zACT.toArray) 36 80 rfl Try.underlying24 info_act rfl (by omega) (by omega) (.slice BV qs.length dv) qs.length (flatA qs) Y rfl rfl HYL.out HY1.out HOD.out HBD.out.size hk80 ?_; intro v1 w9 ho9 hk9 _; have HO9 := Lib.hid ho9; have HK9 := Lib.hid hk9; clear ho9 hk9))
                            go_roundw
                            case rel =>
                              refine ⟨q + 1, by omega, by go_num, ?_, HK9.out.own HOSD.out (own_own_ne HOSD.out HOD.out (by decide)), below_keeps HBD.out HK9.out (Nat.le_refl _) (fun i hi => (own_base HOD.out i hi).1)⟩
                              rw [HFN2.out, ← List.append_assoc, HQS.out, List.length_append, flatA_snoc, HYY.out]
                              exact HO9.out
                            case measure => simp [intOf]; omega
                          · have hq1 : (y.spot == a) = false := beq_eq_false_iff_ne.2 hba
                            clear hlen
                            go_wp2_with fail
                            refine wp_region_noPanic ?_
                            refine wp_region_held_drew (S := (fun w' => w'.cell? ⟨g8, q * 36 + 2, none⟩ = some (.int .u32 y.spot) ∧ w'.cell? ⟨X, 1, none⟩ = some (.slice (some ⟨b2, o2, none⟩) ln lc) ∧ w'.cell? ⟨b2, o2 + j, none⟩ = some (.int .u32 a))) (by kernel_rfl) ?_ (fun hHeld => ?_)
                            · ((try dsimp only); refine ⟨?_, ?_, ?_⟩ <;> (first | assumption | (go_keep; done)))
                            refine wpAnyH_take (i := 0) (oi := ⟨some 104, _, _, _, _, _⟩) (v := ?_) rfl (by kernel_rfl) (by kernel_rfl) (by kernel_rfl) (fun _ _ _ h => False.elim h) (Or.inl ⟨by rfl, ?_⟩) (by assumption) ?_
                            rotate_left
                            · intro w hSw
                              (try dsimp only at hSw)
                              go_simp
                              all_goals with_reducible rfl
                            (try simp only [Act.put, List.setIfInBounds_toArray, List.set_cons_zero, List.set_cons_succ])
                            refine wpAnyH_take (i := 1) (oi := ⟨some 105, _, _, _, _, _⟩) (v := ?_) rfl (by kernel_rfl) (by kernel_rfl) (by kernel_rfl) (fun _ _ _ h => False.elim h) (Or.inl ⟨by rfl, ?_⟩) (by assumption) ?_
                            rotate_left
                            · intro w hSw
                              (try dsimp only at hSw)
                              go_simp
                              all_goals with_reducible rfl
                            (try simp only [Act.put, List.setIfInBounds_toArray, List.set_cons_zero, List.set_cons_succ])
                            refine wpAnyH_take (i := 2) (oi := ⟨some 106, _, _, _, _, _⟩) (v := ?_) rfl (by kernel_rfl) (by kernel_rfl) (by kernel_rfl) (fun _ _ _ h => False.elim h) (Or.inl ⟨by rfl, ?_⟩) (by assumption) ?_
                            rotate_left
                            · intro w hSw
                              (try dsimp only at hSw)
                              go_simp
                              all_goals with_reducible rfl
                            (try simp only [Act.put, List.setIfInBounds_toArray, List.set_cons_zero, List.set_cons_succ])
                            refine wpAnyH_take (i := 3) (oi := ⟨some 107, _, _, _, _, _⟩) (v := ?_) rfl (by kernel_rfl) (by kernel_rfl) (by kernel_rfl) (fun _ _ _ h => False.elim h) (Or.inl ⟨by rfl, ?_⟩) (by assumption) ?_
                            rotate_left
                            · intro w hSw
                              (try dsimp only at hSw)
                              go_simp
                              all_goals with_reducible rfl
                            (try simp only [Act.put, List.setIfInBounds_toArray, List.set_cons_zero, List.set_cons_succ])
                            refine wpAnyH_take (i := 4) (oi := ⟨some 108, _, _, _, _, _⟩) (v := ?_) rfl (by kernel_rfl) (by kernel_rfl) (by kernel_rfl) (fun _ _ _ h => False.elim h) (Or.inl ⟨by rfl, ?_⟩) (by assumption) ?_
                            rotate_left
                            · intro w hSw
                              (try dsimp only at hSw)
                              go_simp
                              all_goals with_reducible rfl
                            (try simp only [Act.put, List.setIfInBounds_toArray, List.set_cons_zero, List.set_cons_succ])
                            refine wpAnyH_take (i := 5) (oi := ⟨some 109, _, _, _, _, _⟩) (v := ?_) rfl (by kernel_rfl) (by kernel_rfl) (by kernel_rfl) (fun _ _ _ h => False.elim h) (Or.inl ⟨by rfl, ?_⟩) (by assumption) ?_
                            rotate_left
                            · intro w hSw
                              (try dsimp only at hSw)
                              go_simp
                              all_goals with_reducible rfl
                            (try simp only [Act.put, List.setIfInBounds_toArray, List.set_cons_zero, List.set_cons_succ])
                            refine wpAnyH_take (i := 6) (oi := ⟨some 110, _, _, _, _, _⟩) (v := ?_) rfl (by kernel_rfl) (by kernel_rfl) (by kernel_rfl) (fun _ _ _ h => False.elim h) (Or.inl ⟨by rfl, ?_⟩) (by assumption) ?_
                            rotate_left
                            · intro w hSw
                              (try dsimp only at hSw)
                              go_simp
                              all_goals with_reducible rfl
                            (try simp only [Act.put, List.setIfInBounds_toArray, List.set_cons_zero, List.set_cons_succ])
                            refine wpAnyH_take (i := 7) (oi := ⟨some 111, _, _, _, _, _⟩) (v := ?_) rfl (by kernel_rfl) (by kernel_rfl) (by kernel_rfl) (fun _ _ _ h => False.elim h) (Or.inl ⟨by rfl, ?_⟩) (by assumption) ?_
                            rotate_left
                            · intro w hSw
                              (try dsimp only at hSw)
                              go_simp
                              all_goals with_reducible rfl
                            (try simp only [Act.put, List.setIfInBounds_toArray, List.set_cons_zero, List.set_cons_succ])
                            refine wpAnyH_take (i := 8) (oi := ⟨some 112, _, _, _, _, _⟩) (v := ?_) rfl (by kernel_rfl) (by kernel_rfl) (by kernel_rfl) (fun _ _ _ h => False.elim h) (Or.inl ⟨by rfl, ?_⟩) (by assumption) ?_
                            rotate_left
                            · intro w hSw
                              (try dsimp only at hSw)
                              go_simp
                              all_goals with_reducible rfl
                            (try simp only [Act.put, List.setIfInBounds_toArray, List.set_cons_zero, List.set_cons_succ])
                            refine wpAnyH_take (i := 9) (oi := ⟨some 113, _, _, _, _, _⟩) (v := ?_) rfl (by kernel_rfl) (by kernel_rfl) (by kernel_rfl) (fun _ _ _ h => False.elim h) (Or.inl ⟨by rfl, ?_⟩) (by assumption) ?_
                            rotate_left
                            · intro w hSw
                              (try dsimp only at hSw)
                              go_simp
                              all_goals with_reducible rfl
                            (try simp only [Act.put, List.setIfInBounds_toArray, List.set_cons_zero, List.set_cons_succ])
                            refine wpAnyH_take (i := 10) (oi := ⟨some 114, _, _, _, _, _⟩) (v := ?_) rfl (by kernel_rfl) (by kernel_rfl) (by kernel_rfl) (fun _ _ _ h => False.elim h) (Or.inl ⟨by rfl, ?_⟩) (by assumption) ?_
                            rotate_left
                            · intro w hSw
                              (try dsimp only at hSw)
                              go_simp
                              all_goals with_reducible rfl
                            (try simp only [Act.put, List.setIfInBounds_toArray, List.set_cons_zero, List.set_cons_succ])
                            refine wpAnyH_done (by kernel_rfl) ?_ _
                            refine NoPanic.normal ?_
                            go_wp2_with fail
                            go_roundw
                            case rel =>
                              refine ⟨q + 1, by omega, by go_num, ?_, ((Keeps.refl (fun _ => False) wr).drew).own HOS.out (fun _ _ h => h), HB8.out.drew⟩
                              rw [HFN.out, if_neg (by simpa using hba), List.append_nil, HQS.out]
                              exact ((Keeps.refl (fun _ => False) wr).drew).own HO8.out (fun _ _ h => h)
                            case measure => simp [intOf]; omega
                        · obtain rfl : q = kl := by omega
                          have e8 : K.take q = K := List.take_of_length_le (by rw [HKL.out]; omega)
                          rw [e8, ← HNXK.out] at ho hwc ⊢
                          have HO9 := Lib.hid ho
                          clear ho hoS hB8 e8
                          go_wp2_with fail
                          go_roundw
                          case rel => exact ⟨j + 1, by omega, by go_num, by rw [HT18.out]; exact HOS.out, HO9.out, HB8.out⟩
                          case measure => simp [intOf]; omega
                · obtain rfl : j = ln := by omega
                  have e1 : lx.take j = lx := List.take_of_length_le (by rw [HLL.out]; omega)
                  rw [e1] at HO18 HO19 ⊢
                  have HN : Hid (SureAt w wr p G (changeL L lx) cr (pickX id S lx) (pickX (·.spot) K lx) _ _ (k + 1)) := Lib.hid
                    ⟨HS5.out.below HB6.out, HGB.out, own_lowerS HO18.out HB5.out.size, own_lowerS HO19.out HB5.out.size, HINV.out, by have := pickX_len id lx HND.out S; have := HM7.out; omega, by have := pickX_len (fun y : Sa => y.spot) lx HND.out K; have := HKL.out; omega,
                      fun y hy => HKOK.out y (pickX_mem.1 hy).1, HB5.out.trans (HB6.out.mono HB5.out.size)⟩
                  clear e1
                  go_wp2_with fail
                  go_meet
                  case rel => exact ⟨G, _, cr, _, _, HN.out⟩
          · as_aux_lemma =>
            obtain ⟨lx, hlx⟩ : ∃ l, x.xs = l := ⟨_, rfl⟩
            obtain ⟨LA, hLA⟩ : ∃ l, x.A = l := ⟨_, rfl⟩
            obtain ⟨ln, hln⟩ : ∃ l, x.n = l := ⟨_, rfl⟩
            obtain ⟨lc, hlc⟩ : ∃ l, x.c = l := ⟨_, rfl⟩
            have HRL : Hid (Rd w .u32 LA ln lx) := Lib.hid (by have := HOKX.out.rd; rwa [hlx, hLA, hln] at this)
            have hle : ln ≤ lc := by have := HOKX.out.le; omega
            have hcap : lc ≤ 35184372087808 := by have := HOKX.out.cap; omega
            rw [hLA, hln, hlc] at d1
            have HCELL1 : Hid (∀ W, Blk W X 35 CX → W.cell? ⟨X, 1, none⟩ = some (.slice LA ln lc)) := Lib.hid (fun W h => by have := (HCELL.out W h).2.1; rwa [hLA, hln, hlc] at this)
            clear hlx hLA hln hlc d2 d3 d4
            have HCH := Lib.hid (change_any HST4.out.set LA ln lc lx (HRL.out.below HST4.out.bel) hle (by omega))
            go_wp2_with fail
            refine HCH.out.mono ?_; rintro e w5 (⟨hno, rfl, hS5, hB5⟩ | ⟨hok, A', G, rfl, hl, hG, hS5, hK5⟩)
            · have HN : Hid (SureAt w w5 p g' L cr S K (.slice A7 S.length c7) (.slice A8 K.length c8) (k + 1)) := Lib.hid (HST4.out.below hB5).next
              clear hno hS5 hB5 HCH
              go_wp2_with fail
              go_roundw
              case rel => exact ⟨k + 1, g', L, cr, S, K, by omega, by go_num, HN.out⟩
              case measure => simp [intOf]; omega
            · have HK5 := Lib.hid (HK4.out.keep hK5 (fun h => HXP.out h))
              have HSV5 := Lib.hid (hK5.own HST4.out.sv (fun j hj e => own_blk_ne HST4.out.sv HST4.out.set.set (by decide) (by rw [hj, e])))
              have HKV5 := Lib.hid (hK5.own HST4.out.kv (fun j hj e => own_blk_ne HST4.out.kv HST4.out.set.set (by decide) (by rw [hj, e])))
              have HB5 := Lib.hid (below_keeps HST4.out.bel hK5 (Nat.le_refl _) (fun i hi => by rw [hi]; exact HP.out))
              have HS5 := Lib.hid hS5
              have HGB := Lib.hid (Nat.le_trans HST4.out.bel.size hG)
              have HINV := Lib.hid (sure_change HST4.out.inv HRL.out.len hok)
              have HND := Lib.hid (nodup_of HRL.out.len hok)
              have hn4 : 1 ≤ ln ∧ ln ≤ 4 := ⟨hok.1, hok.2.1⟩
              obtain ⟨b2, o2, rfl, hbl, hcl⟩ := HRL.out.row (by omega)
              have HLL := Lib.hid HRL.out.len
              have HCL : Hid (∀ W, Below w5.heap.size w5 W → ∀ j a, lx[j]? = some a → W.cell? ⟨b2, o2 + j, none⟩ = some (.int .u32 a)) := Lib.hid (fun W hW j a ha => by
                have hj : j < ln := by have := (List.getElem?_eq_some_iff.1 ha).1; have := HRL.out.len; omega
                have := ((HB5.out.trans (hW.mono HB5.out.size)).cell (p := ⟨b2, o2 + j, none⟩) hbl).trans (hcl j hj)
                rwa [ha] at this)
              have HCS : Hid (∀ W, Below w5.heap.size w5 W → 0 < S.length → ∃ g7, A7 = some ⟨g7, 0, none⟩ ∧ ∀ i b, S[i]? = some b → W.cell? ⟨g7, i, none⟩ = some (.int .u32 b)) := Lib.hid (fun W hW h0 => by
                obtain ⟨hl, A', c', he, _, _, hrow⟩ := own_ints HSV5.out
                injection he with he1 he2 he3
                subst he1
                obtain ⟨g7, hA, _, hgl, hcells⟩ := hrow h0
                refine ⟨g7, hA, fun i b hb => ?_⟩
                have hi := (List.getElem?_eq_some_iff.1 hb).1
                rw [hW.cell (p := ⟨g7, i, none⟩) hgl, hcells i hi, hb]; rfl)
              have HKC : Hid (∀ W, Below w5.heap.size w5 W → 0 < K.length → ∃ g8, A8 = some ⟨g8, 0, none⟩ ∧ ∀ m y, K[m]? = some y → W.rangeAt g8 (m * 36) (saC y)) := Lib.hid (fun W hW h0 => by
                obtain ⟨g8, e, hl, hr⟩ := rowA_at HKV5.out HST4.out.kok h0
                exact ⟨g8, e, fun m y hy i v hv => (hW.cell (p := ⟨g8, m * 36 + i, none⟩) hl).trans (hr m y hy i v hv)⟩)
              have HX1 : Hid (∀ W, Below w5.heap.size w5 W → W.cell? ⟨X, 1, none⟩ = some (.slice (some ⟨b2, o2, none⟩) ln lc)) := Lib.hid (fun W hW => HCELL1.out W (HK5.out.below hW HK5.out.lt))
              obtain ⟨m7, hm7⟩ : ∃ n, S.length = n := ⟨_, rfl⟩
              obtain ⟨kl, hkl⟩ : ∃ n, K.length = n := ⟨_, rfl⟩
              have HM7 := Lib.hid hm7
              have HKL := Lib.hid hkl
              have hm7k : m7 ≤ k + 1 := by rw [← hm7]; exact HST4.out.sl
              have hklk : kl ≤ k := by rw [← hkl]; exact HST4.out.kl
              obtain ⟨mo, hmo⟩ : ∃ n, (othersL L lx).length = n := ⟨_, rfl⟩
              rw [hm7, hkl, hmo]
              have HKOK := Lib.hid HST4.out.kok
              clear hok hl hG hS5 hK5 hbl hcl hm7 hkl hmo HCH d1
              obtain ⟨wo, hwo⟩ : ∃ wo : World, wo = wr := ⟨_, rfl⟩
              subst hwo
              go_wp2_with fail
              go_loopw [18, 19, 20] (fun v18 v19 i wr => ∃ j : Nat, j ≤ ln ∧ i = .int .i64 j ∧ wr.ownsRow w5.heap.size 23 1 v18 (pickX id S (lx.take j)).length ((pickX id S (lx.take j)).map (Value.int .u32)) ∧ wr.ownsRow w5.heap.size 35 36 v19 (pickX (·.spot) K (lx.take j)).length (flatA (pickX (·.spot) K (lx.take j))) ∧ Below w5.heap.size w5 wr) (fun _ _ i _ => ln - (intOf i).toNat)
              case atStart => exact ⟨0, Nat.zero_le _, rfl, own_nil _ _ _ _, own_nil _ _ _ _, Below.refl _ _⟩
              case round =>
                obtain ⟨j, hj, rfl, ho18, ho19, hB6⟩ := hrel
                obtain ⟨A18, c18, rfl, h18c, h18m, -⟩ := own_slice ho18
                obtain ⟨A19, c19, rfl, h19c, h19m, -⟩ := own_slice ho19
                have HB6 := Lib.hid hB6
                have HO18 := Lib.hid ho18
                have HO19 := Lib.hid ho19
                have cx := HX1.out wr hB6
                clear ho18 ho19 hB6
                by_cases hjl : j < ln
                · obtain ⟨a, ha⟩ : ∃ a, lx[j]? = some a := ⟨_, List.getElem?_eq_getElem (by rw [HLL.out]; exact hjl)⟩
                  have HNXS := Lib.hid (pickX_next id S ha)
                  have HNXK := Lib.hid (pickX_next (fun y : Sa => y.spot) K ha)
                  have hndt : (lx.take (j + 1)).Nodup := List.Pairwise.sublist (List.take_sublist _ _) HND.out
                  have HLS := Lib.hid (pickX_len id (lx.take (j + 1)) hndt S)
                  have HLK := Lib.hid (pickX_len (fun y : Sa => y.spot) (lx.take (j + 1)) hndt K)
                  have HCLA : Hid (∀ W, Below w5.heap.size w5 W → W.cell? ⟨b2, o2 + j, none⟩ = some (.int .u32 a)) := Lib.hid (fun W hW => HCL.out W hW j a ha)
                  obtain ⟨ps, hps⟩ : ∃ l, pickX id S (lx.take j) = l := ⟨_, rfl⟩
                  obtain ⟨ks, hks⟩ : ∃ l, pickX (fun y : Sa => y.spot) K (lx.take j) = l := ⟨_, rfl⟩
                  rw [hps] at HO18 HNXS h18c ⊢
                  rw [hks] at HO19 HNXK h19c ⊢
                  have j0 : (0 : Int) ≤ (j : Int) := by omega
                  have j1 : (j : Int) < (ln : Int) := by omega
                  clear ha hps hks hndt
                  obtain ⟨w6, hw6⟩ : ∃ w6 : World, w6 = wr := ⟨_, rfl⟩
                  subst hw6
                  go_wp2_with fail
                  go_loopw [18, 21] (fun v i wr => ∃ m : Nat, m ≤ m7 ∧ i = .int .i64 m ∧ wr.ownsRow w5.heap.size 23 1 v (ps ++ (S.take m).filter (fun y => id y == a)).length ((ps ++ (S.take m).filter (fun y => id y == a)).map (Value.int .u32)) ∧ wr.ownsRow w5.heap.size 35 36 (.slice A19 ks.length c19) ks.length (flatA ks) ∧ Below w5.heap.size w5 wr) (fun _ i _ => m7 - (intOf i).toNat)
                  case atStart => exact ⟨0, Nat.zero_le _, rfl, by simpa using HO18.out, HO19.out, HB6.out⟩
                  case round =>
                    obtain ⟨m, hm, rfl, ho, hoK, hB7⟩ := hrel
                    obtain ⟨AV, cv, rfl, hvc, hvm, -⟩ := own_slice ho
                    have HB7 := Lib.hid hB7
                    have HO := Lib.hid ho
                    have HOK := Lib.hid hoK
                    by_cases hml : m < m7
                    · obtain ⟨b, hb⟩ : ∃ b, S[m]? = some b := ⟨_, List.getElem?_eq_getElem (by rw [HM7.out]; exact hml)⟩
                      obtain ⟨g7, rfl, hc7⟩ := HCS.out wr hB7 (by rw [HM7.out]; omega)
                      have cs := hc7 m b hb
                      have cl := HCLA.out wr hB7
                      have cx1 := HX1.out wr hB7
                      have HFN := Lib.hid (filter_next (fun y : Int => id y == a) hb)
                      have hlen : (ps ++ (S.take m).filter (fun y => id y == a)).length ≤ 2 * k + 2 := by
                        have h1 := HLS.out
                        rw [HNXS.out, List.length_append] at h1
                        have h2 := List.length_filter_le (fun y : Int => id y == a) (S.take m)
                        have h3 : (S.take m).length ≤ m := List.length_take_le _ _
                        have h4 := HM7.out
                        rw [List.length_append]
                        omega
                      obtain ⟨qs, hqs⟩ : ∃ l, ps ++ (S.take m).filter (fun y => id y == a) = l := ⟨_, rfl⟩
                      rw [hqs] at HO hlen hvc ⊢
                      have HQS := Lib.hid hqs
                      have m0 : (0 : Int) ≤ (m : Int) := by omega
                      have m1 : (m : Int) < (m7 : Int) := by omega
                      clear ho hoK hB7 hb hc7 hqs
                      by_cases hba : b = a
                      · have hq1 : (b == a) = true := beq_iff_eq.2 hba
                        subst hba
                        go_wp2_with fail
                        refine wp_region_noPanic ?_
                        refine wp_region_held_drew (S := (fun w' => w'.cell? ⟨g7, m, none⟩ = some (.int .u32 b) ∧ w'.cell? ⟨X, 1, none⟩ = some (.slice (some ⟨b2, o2, none⟩) ln lc) ∧ w'.cell? ⟨b2, o2 + j, none⟩ = some (.int .u32 b))) (by kernel_rfl) ?_ (fun hHeld => ?_)
                        · ((try dsimp only); refine ⟨?_, ?_, ?_⟩ <;> (first | assumption | (go_keep; done)))
                        refine wpAnyH_take (i := 0) (oi := ⟨some 80, _, _, _, _, _⟩) (v := ?_) rfl (by kernel_rfl) (by kernel_rfl) (by kernel_rfl) (fun _ _ _ h => False.elim h) (Or.inl ⟨by rfl, ?_⟩) (by assumption) ?_
                        rotate_left
                        · intro w hSw
                          (try dsimp only at hSw)
                          go_simp
                          all_goals with_reducible rfl
                        (try simp only [Act.put, List.setIfInBounds_toArray, List.set_cons_zero, List.set_cons_succ])
                        refine wpAnyH_take (i := 1) (oi := ⟨some 81, _, _, _, _, _⟩) (v := ?_) rfl (by kernel_rfl) (by kernel_rfl) (by kernel_rfl) (fun _ _ _ h => False.elim h) (Or.inl ⟨by rfl, ?_⟩) (by assumption) ?_
                        rotate_left
                        · intro w hSw
                          (try dsimp only at hSw)
                          go_simp
                          all_goals with_reducible rfl
                        (try simp only [Act.put, List.setIfInBounds_toArray, List.set_cons_zero, List.set_cons_succ])
                        refine wpAnyH_take (i := 2) (oi := ⟨some 82, _, _, _, _, _⟩) (v := ?_) rfl (by kernel_rfl) (by kernel_rfl) (by kernel_rfl) (fun _ _ _ h => False.elim h) (Or.inl ⟨by rfl, ?_⟩) (by assumption) ?_
                        rotate_left
                        · intro w hSw
                          (try dsimp only at hSw)
                          go_simp
                          all_goals with_reducible rfl
                        (try simp only [Act.put, List.setIfInBounds_toArray, List.set_cons_zero, List.set_cons_succ])
                        refine wpAnyH_take (i := 3) (oi := ⟨some 83, _, _, _, _, _⟩) (v := ?_) rfl (by kernel_rfl) (by kernel_rfl) (by kernel_rfl) (fun _ _ _ h => False.elim h) (Or.inl ⟨by rfl, ?_⟩) (by assumption) ?_
                        rotate_left
                        · intro w hSw
                          (try dsimp only at hSw)
                          go_simp
                          all_goals with_reducible rfl
                        (try simp only [Act.put, List.setIfInBounds_toArray, List.set_cons_zero, List.set_cons_succ])
                        refine wpAnyH_take (i := 4) (oi := ⟨some 84, _, _, _, _, _⟩) (v := ?_) rfl (by kernel_rfl) (by kernel_rfl) (by kernel_rfl) (fun _ _ _ h => False.elim h) (Or.inl ⟨by rfl, ?_⟩) (by assumption) ?_
                        rotate_left
                        · intro w hSw
                          (try dsimp only at hSw)
                          go_simp
                          all_goals with_reducible rfl
                        (try simp only [Act.put, List.setIfInBounds_toArray, List.set_cons_zero, List.set_cons_succ])
                        refine wpAnyH_take (i := 5) (oi := ⟨some 85, _, _, _, _, _⟩) (v := ?_) rfl (by kernel_rfl) (by kernel_rfl) (by kernel_rfl) (fun _ _ _ h => False.elim h) (Or.inl ⟨by rfl, ?_⟩) (by assumption) ?_
                        rotate_left
                        · intro w hSw
                          (try dsimp only at hSw)
                          go_simp
                          all_goals with_reducible rfl
                        (try simp only [Act.put, List.setIfInBounds_toArray, List.set_cons_zero, List.set_cons_succ])
                        refine wpAnyH_take (i := 6) (oi := ⟨some 86, _, _, _, _, _⟩) (v := ?_) rfl (by kernel_rfl) (by kernel_rfl) (by kernel_rfl) (fun _ _ _ h => False.elim h) (Or.inl ⟨by rfl, ?_⟩) (by assumption) ?_
                        rotate_left
                        · intro w hSw
                          (try dsimp only at hSw)
                          go_simp
                          all_goals with_reducible rfl
                        (try simp only [Act.put, List.setIfInBounds_toArray, List.set_cons_zero, List.set_cons_succ])
                        refine wpAnyH_take (i := 7) (oi := ⟨some 87, _, _, _, _, _⟩) (v := ?_) rfl (by kernel_rfl) (by kernel_rfl) (by kernel_rfl) (fun _ _ _ h => False.elim h) (Or.inl ⟨by rfl, ?_⟩) (by assumption) ?_
                        rotate_left
                        · intro w hSw
                          (try dsimp only at hSw)
                          go_simp
                          all_goals with_reducible rfl
                        (try simp only [Act.put, List.setIfInBounds_toArray, List.set_cons_zero, List.set_cons_succ])
                        refine wpAnyH_take (i := 8) (oi := ⟨some 88, _, _, _, _, _⟩) (v := ?_) rfl (by kernel_rfl) (by kernel_rfl) (by kernel_rfl) (fun _ _ _ h => False.elim h) (Or.inl ⟨by rfl, ?_⟩) (by assumption) ?_
                        rotate_left
                        · intro w hSw
                          (try dsimp only at hSw)
                          go_simp
                          all_goals with_reducible rfl
                        (try simp only [Act.put, List.setIfInBounds_toArray, List.set_cons_zero, List.set_cons_succ])
                        refine wpAnyH_take (i := 9) (oi := ⟨some 89, _, _, _, _, _⟩) (v := ?_) rfl (by kernel_rfl) (by kernel_rfl) (by kernel_rfl) (fun _ _ _ h => False.elim h) (Or.inl ⟨by rfl, ?_⟩) (by assumption) ?_
                        rotate_left
                        · intro w hSw
                          (try dsimp only at hSw)
                          go_simp
                          all_goals with_reducible rfl
                        (try simp only [Act.put, List.setIfInBounds_toArray, List.set_cons_zero, List.set_cons_succ])
                        refine wpAnyH_done (by kernel_rfl) ?_ _
                        refine NoPanic.normal ?_
                        have HOD : Hid (wr.drew.ownsRow w5.heap.size 23 1 (.slice AV qs.length cv) qs.length (qs.map (Value.int .u32))) := Lib.hid (((Keeps.refl (fun _ => False) wr).drew).own HO.out (fun _ _ h => h))
                        have HOKD : Hid (wr.drew.ownsRow w5.heap.size 35 36 (.slice A19 ks.length c19) ks.length (flatA ks)) := Lib.hid (((Keeps.refl (fun _ => False) wr).drew).own HOK.out (fun _ _ h => h))
                        have HBD : Hid (Below w5.heap.size w5 wr.drew) := Lib.hid HB7.out.drew
                        generalize wr.drew = w8 at *
                        go_wp2_with (at_builtin; refine append_int (W := w8) w5.heap.size rfl _ _ 31 23 .u32 4 rfl Try.underlying31 info_spotS (by omega) (.slice AV qs.length cv) qs.length qs b rfl rfl HOD.out HBD.out.size (by omega) ?_; intro v1 w9 ho9 hk9 _; have HO9 := Lib.hid ho9; have HK9 := Lib.hid hk9; clear ho9 hk9)
                        go_roundw
                        case rel =>
                          refine ⟨m + 1, by omega, by go_num, ?_, HK9.out.own HOKD.out (own_own_ne HOKD.out HOD.out (by decide)), below_keeps HBD.out HK9.out (Nat.le_refl _) (fun i hi => (own_base HOD.out i hi).1)⟩
                          rw [HFN.out, if_pos (by simp), ← List.append_assoc, HQS.out, List.length_append]
                          exact HO9.out
                        case measure => simp [intOf]; omega
                      · have hq1 : (b == a) = false := beq_eq_false_iff_ne.2 hba
                        go_wp2_with fail
                        refine wp_region_noPanic ?_
                        refine wp_region_held_drew (S := (fun w' => w'.cell? ⟨g7, m, none⟩ = some (.int .u32 b) ∧ w'.cell? ⟨X, 1, none⟩ = some (.slice (some ⟨b2, o2, none⟩) ln lc) ∧ w'.cell? ⟨b2, o2 + j, none⟩ = some (.int .u32 a))) (by kernel_rfl) ?_ (fun hHeld => ?_)
                        · ((try dsimp only); refine ⟨?_, ?_, ?_⟩ <;> (first | assumption | (go_keep; done)))
                        refine wpAnyH_take (i := 0) (oi := ⟨some 80, _, _, _, _, _⟩) (v := ?_) rfl (by kernel_rfl) (by kernel_rfl) (by kernel_rfl) (fun _ _ _ h => False.elim h) (Or.inl ⟨by rfl, ?_⟩) (by assumption) ?_
                        rotate_left
                        · intro w hSw
                          (try dsimp only at hSw)
                          go_simp
                          all_goals with_reducible rfl
                        (try simp only [Act.put, List.setIfInBounds_toArray, List.set_cons_zero, List.set_cons_succ])
                        refine wpAnyH_take (i := 1) (oi := ⟨some 81, _, _, _, _, _⟩) (v := ?_) rfl (by kernel_rfl) (by kernel_rfl) (by kernel_rfl) (fun _ _ _ h => False.elim h) (Or.inl ⟨by rfl, ?_⟩) (by assumption) ?_
                        rotate_left
                        · intro w hSw
                          (try dsimp only at hSw)
                          go_simp
                          all_goals with_reducible rfl
                        (try simp only [Act.put, List.setIfInBounds_toArray, List.set_cons_zero, List.set_cons_succ])
                        refine wpAnyH_take (i := 2) (oi := ⟨some 82, _, _, _, _, _⟩) (v := ?_) rfl (by kernel_rfl) (by kernel_rfl) (by kernel_rfl) (fun _ _ _ h => False.elim h) (Or.inl ⟨by rfl, ?_⟩) (by assumption) ?_
                        rotate_left
                        · intro w hSw
                          (try dsimp only at hSw)
                          go_simp
                          all_goals with_reducible rfl
                        (try simp only [Act.put, List.setIfInBounds_toArray, List.set_cons_zero, List.set_cons_succ])
                        refine wpAnyH_take (i := 3) (oi := ⟨some 83, _, _, _, _, _⟩) (v := ?_) rfl (by kernel_rfl) (by kernel_rfl) (by kernel_rfl) (fun _ _ _ h => False.elim h) (Or.inl ⟨by rfl, ?_⟩) (by assumption) ?_
                        rotate_left
                        · intro w hSw
                          (try dsimp only at hSw)
                          go_simp
                          all_goals with_reducible rfl
                        (try simp only [Act.put, List.setIfInBounds_toArray, List.set_cons_zero, List.set_cons_succ])
                        refine wpAnyH_take (i := 4) (oi := ⟨some 84, _, _, _, _, _⟩) (v := ?_) rfl (by kernel_rfl) (by kernel_rfl) (by kernel_rfl) (fun _ _ _ h => False.elim h) (Or.inl ⟨by rfl, ?_⟩) (by assumption) ?_
                        rotate_left
                        · intro w hSw
                          (try dsimp only at hSw)
                          go_simp
                          all_goals with_reducible rfl
                        (try simp only [Act.put, List.setIfInBounds_toArray, List.set_cons_zero, List.set_cons_succ])
                        refine wpAnyH_take (i := 5) (oi := ⟨some 85, _, _, _, _, _⟩) (v := ?_) rfl (by kernel_rfl) (by kernel_rfl) (by kernel_rfl) (fun _ _ _ h => False.elim h) (Or.inl ⟨by rfl, ?_⟩) (by assumption) ?_
                        rotate_left
                        · intro w hSw
                          (try dsimp only at hSw)
                          go_simp
                          all_goals with_reducible rfl
                        (try simp only [Act.put, List.setIfInBounds_toArray, List.set_cons_zero, List.set_cons_succ])
                        refine wpAnyH_take (i := 6) (oi := ⟨some 86, _, _, _, _, _⟩) (v := ?_) rfl (by kernel_rfl) (by kernel_rfl) (by kernel_rfl) (fun _ _ _ h => False.elim h) (Or.inl ⟨by rfl, ?_⟩) (by assumption) ?_
                        rotate_left
                        · intro w hSw
                          (try dsimp only at hSw)
                          go_simp
                          all_goals with_reducible rfl
                        (try simp only [Act.put, List.setIfInBounds_toArray, List.set_cons_zero, List.set_cons_succ])
                        refine wpAnyH_take (i := 7) (oi := ⟨some 87, _, _, _, _, _⟩) (v := ?_) rfl (by kernel_rfl) (by kernel_rfl) (by kernel_rfl) (fun _ _ _ h => False.elim h) (Or.inl ⟨by rfl, ?_⟩) (by assumption) ?_
                        rotate_left
                        · intro w hSw
                          (try dsimp only at hSw)
                          go_simp
                          all_goals with_reducible rfl
                        (try simp only [Act.put, List.setIfInBounds_toArray, List.set_cons_zero, List.set_cons_succ])
                        refine wpAnyH_take (i := 8) (oi := ⟨some 88, _, _, _, _, _⟩) (v := ?_) rfl (by kernel_rfl) (by kernel_rfl) (by kernel_rfl) (fun _ _ _ h => False.elim h) (Or.inl ⟨by rfl, ?_⟩) (by assumption) ?_
                        rotate_left
                        · intro w hSw
                          (try dsimp only at hSw)
                          go_simp
                          all_goals with_reducible rfl
                        (try simp only [Act.put, List.setIfInBounds_toArray, List.set_cons_zero, List.set_cons_succ])
                        refine wpAnyH_take (i := 9) (oi := ⟨some 89, _, _, _, _, _⟩) (v := ?_) rfl (by kernel_rfl) (by kernel_rfl) (by kernel_rfl) (fun _ _ _ h => False.elim h) (Or.inl ⟨by rfl, ?_⟩) (by assumption) ?_
                        rotate_left
                        · intro w hSw
                          (try dsimp only at hSw)
                          go_simp
                          all_goals with_reducible rfl
                        (try simp only [Act.put, List.setIfInBounds_toArray, List.set_cons_zero, List.set_cons_succ])
                        refine wpAnyH_done (by kernel_rfl) ?_ _
                        refine NoPanic.normal ?_
                        go_wp2_with fail
                        go_roundw
                        case rel =>
                          refine ⟨m + 1, by omega, by go_num, ?_, ((Keeps.refl (fun _ => False) wr).drew).own HOK.out (fun _ _ h => h), HB7.out.drew⟩
                          rw [HFN.out, if_neg (by simpa using hba), List.append_nil, HQS.out]
                          exact ((Keeps.refl (fun _ => False) wr).drew).own HO.out (fun _ _ h => h)
                        case measure => simp [intOf]; omega
                    · obtain rfl : m = m7 := by omega
                      have e7 : S.take m = S := List.take_of_length_le (by rw [HM7.out]; omega)
                      rw [e7, ← HNXS.out] at ho hvc ⊢
                      have HO7 := Lib.hid ho
                      obtain ⟨t18, ht18⟩ : ∃ l, pickX id S (lx.take (j + 1)) = l := ⟨_, rfl⟩
                      rw [ht18] at HO7 hvc ⊢
                      have HT18 := Lib.hid ht18
                      clear ho hoK hB7 e7 ht18
                      obtain ⟨w7, hw7⟩ : ∃ w7 : World, w7 = wr := ⟨_, rfl⟩
                      subst hw7
                      go_wp2_with fail
                      go_loopw [19, 22] (fun v i wr => ∃ m : Nat, m ≤ kl ∧ i = .int .i64 m ∧ wr.ownsRow w5.heap.size 35 36 v (ks ++ (K.take m).filter (fun y => y.spot == a)).length (flatA (ks ++ (K.take m).filter (fun y => y.spot == a))) ∧ wr.ownsRow w5.heap.size 23 1 (.slice AV t18.length cv) t18.length (t18.map (Value.int .u32)) ∧ Below w5.heap.size w5 wr) (fun _ i _ => kl - (intOf i).toNat)
                      case atStart => exact ⟨0, Nat.zero_le _, rfl, by simpa using HOK.out, HO7.out, HB7.out⟩
                      case round =>
                        obtain ⟨q, hq, rfl, ho, hoS, hB8⟩ := hrel
                        obtain ⟨BV, dv, rfl, hwc, hwm, -⟩ := own_slice ho
                        have HB8 := Lib.hid hB8
                        have HO8 := Lib.hid ho
                        have HOS := Lib.hid hoS
                        by_cases hql : q < kl
                        · obtain ⟨y, hy⟩ : ∃ y, K[q]? = some y := ⟨_, List.getElem?_eq_getElem (by rw [HKL.out]; exact hql)⟩
                          obtain ⟨g8, rfl, hc8⟩ := HKC.out wr hB8 (by rw [HKL.out]; omega)
                          have hys := HKOK.out y (List.mem_of_getElem? hy)
                          have hrg := hc8 q y hy
                          obtain ⟨-, -, y2, -, -⟩ := sa_at hrg hys
                          have cl := HCLA.out wr hB8
                          have cx1 := HX1.out wr hB8
                          have hfn := filter_next (fun z : Sa => z.spot == a) hy
                          have HFN := Lib.hid hfn
                          have HRGY := Lib.hid hrg
                          have HYL := Lib.hid (saC_length hys)
                          have HY1 := Lib.hid (saC_one y)
                          have HSZY : Hid ((Try.prog.info? 35).map (·.size) = some (saC y).length) := Lib.hid (by rw [saC_length hys]; exact size_act)
                          have HBY := Lib.hid (fun W => build_act1 (saC y) (saC_length hys) W)
                          have hlen : (y.spot == a) = true → (ks ++ (K.take q).filter (fun z => z.spot == a)).length + 1 ≤ kl := fun hyt => by
                            have h1 := HLK.out
                            rw [HNXK.out, List.length_append, HKL.out] at h1
                            have h2 : ((K.take (q + 1)).filter (fun z : Sa => z.spot == a)).length ≤ (K.filter (fun z : Sa => z.spot == a)).length := ((List.take_sublist _ _).filter _).length_le
                            rw [hfn, if_pos hyt, List.length_append] at h2
                            rw [List.length_append]
                            simp at h2
                            omega
                          obtain ⟨qs, hqs⟩ : ∃ l, ks ++ (K.take q).filter (fun z => z.spot == a) = l := ⟨_, rfl⟩
                          rw [hqs] at HO8 hlen hwc ⊢
                          have HQS := Lib.hid hqs
                          have m0 : (0 : Int) ≤ (q : Int) := by omega
                          have m1 : (q : Int) < (kl : Int) := by omega
                          clear ho hoS hB8 hy hc8 hqs hys hrg hfn
                          by_cases hba : y.spot = a
                          · have hq1 : (y.spot == a) = true := beq_iff_eq.2 hba
                            have hk80 : (qs.length + 1) * 80 ≤ 140737488355328 := by have := hlen hq1; omega
                            have HFN2 : Hid ((K.take (q + 1)).filter (fun z => z.spot == a) = (K.take q).filter (fun z => z.spot == a) ++ [y]) := Lib.hid (by rw [HFN.out, if_pos hq1])
                            have hrr : wr.cell? ⟨g8, q * 36 + 2, none⟩ = some (.int .u32 a) := by rw [← hba]; exact y2
                            clear hlen hba y2 hq1
                            obtain ⟨Y, hY⟩ : ∃ Y, saC y = Y := ⟨_, rfl⟩
                            rw [hY] at HRGY HYL HY1 HSZY HBY
                            have HYY := Lib.hid hY
                            clear hY
                            go_wp2_with fail
                            refine wp_region_noPanic ?_
                            refine wp_region_held_drew (S := (fun w' => w'.cell? ⟨g8, q * 36 + 2, none⟩ = some (.int .u32 a) ∧ w'.cell? ⟨X, 1, none⟩ = some (.slice (some ⟨b2, o2, none⟩) ln lc) ∧ w'.cell? ⟨b2, o2 + j, none⟩ = some (.int .u32 a))) (by kernel_rfl) ?_ (fun hHeld => ?_)
                            · ((try dsimp only); refine ⟨?_, ?_, ?_⟩ <;> (first | assumption | (go_keep; done)))
                            refine wpAnyH_take (i := 0) (oi := ⟨some 104, _, _, _, _, _⟩) (v := ?_) rfl (by kernel_rfl) (by kernel_rfl) (by kernel_rfl) (fun _ _ _ h => False.elim h) (Or.inl ⟨by rfl, ?_⟩) (by assumption) ?_
                            rotate_left
                            · intro w hSw
                              (try dsimp only at hSw)
                              go_simp
                              all_goals with_reducible rfl
                            (try simp only [Act.put, List.setIfInBounds_toArray, List.set_cons_zero, List.set_cons_succ])
                            refine wpAnyH_take (i := 1) (oi := ⟨some 105, _, _, _, _, _⟩) (v := ?_) rfl (by kernel_rfl) (by kernel_rfl) (by kernel_rfl) (fun _ _ _ h => False.elim h) (Or.inl ⟨by rfl, ?_⟩) (by assumption) ?_
                            rotate_left
                            · intro w hSw
                              (try dsimp only at hSw)
                              go_simp
                              all_goals with_reducible rfl
                            (try simp only [Act.put, List.setIfInBounds_toArray, List.set_cons_zero, List.set_cons_succ])
                            refine wpAnyH_take (i := 2) (oi := ⟨some 106, _, _, _, _, _⟩) (v := ?_) rfl (by kernel_rfl) (by kernel_rfl) (by kernel_rfl) (fun _ _ _ h => False.elim h) (Or.inl ⟨by rfl, ?_⟩) (by assumption) ?_
                            rotate_left
                            · intro w hSw
                              (try dsimp only at hSw)
                              go_simp
                              all_goals with_reducible rfl
                            (try simp only [Act.put, List.setIfInBounds_toArray, List.set_cons_zero, List.set_cons_succ])
                            refine wpAnyH_take (i := 3) (oi := ⟨some 107, _, _, _, _, _⟩) (v := ?_) rfl (by kernel_rfl) (by kernel_rfl) (by kernel_rfl) (fun _ _ _ h => False.elim h) (Or.inl ⟨by rfl, ?_⟩) (by assumption) ?_
                            rotate_left
                            · intro w hSw
                              (try dsimp only at hSw)
                              go_simp
                              all_goals with_reducible rfl
                            (try simp only [Act.put, List.setIfInBounds_toArray, List.set_cons_zero, List.set_cons_succ])
                            refine wpAnyH_take (i := 4) (oi := ⟨some 108, _, _, _, _, _⟩) (v := ?_) rfl (by kernel_rfl) (by kernel_rfl) (by kernel_rfl) (fun _ _ _ h => False.elim h) (Or.inl ⟨by rfl, ?_⟩) (by assumption) ?_
                            rotate_left
                            · intro w hSw
                              (try dsimp only at hSw)
                              go_simp
                              all_goals with_reducible rfl
                            (try simp only [Act.put, List.setIfInBounds_toArray, List.set_cons_zero, List.set_cons_succ])
                            refine wpAnyH_take (i := 5) (oi := ⟨some 109, _, _, _, _, _⟩) (v := ?_) rfl (by kernel_rfl) (by kernel_rfl) (by kernel_rfl) (fun _ _ _ h => False.elim h) (Or.inl ⟨by rfl, ?_⟩) (by assumption) ?_
                            rotate_left
                            · intro w hSw
                              (try dsimp only at hSw)
                              go_simp
                              all_goals with_reducible rfl
                            (try simp only [Act.put, List.setIfInBounds_toArray, List.set_cons_zero, List.set_cons_succ])
                            refine wpAnyH_take (i := 6) (oi := ⟨some 110, _, _, _, _, _⟩) (v := ?_) rfl (by kernel_rfl) (by kernel_rfl) (by kernel_rfl) (fun _ _ _ h => False.elim h) (Or.inl ⟨by rfl, ?_⟩) (by assumption) ?_
                            rotate_left
                            · intro w hSw
                              (try dsimp only at hSw)
                              go_simp
                              all_goals with_reducible rfl
                            (try simp only [Act.put, List.setIfInBounds_toArray, List.set_cons_zero, List.set_cons_succ])
                            refine wpAnyH_take (i := 7) (oi := ⟨some 111, _, _, _, _, _⟩) (v := ?_) rfl (by kernel_rfl) (by kernel_rfl) (by kernel_rfl) (fun _ _ _ h => False.elim h) (Or.inl ⟨by rfl, ?_⟩) (by assumption) ?_
                            rotate_left
                            · intro w hSw
                              (try dsimp only at hSw)
                              go_simp
                              all_goals with_reducible rfl
                            (try simp only [Act.put, List.setIfInBounds_toArray, List.set_cons_zero, List.set_cons_succ])
                            refine wpAnyH_take (i := 8) (oi := ⟨some 112, _, _, _, _, _⟩) (v := ?_) rfl (by kernel_rfl) (by kernel_rfl) (by kernel_rfl) (fun _ _ _ h => False.elim h) (Or.inl ⟨by rfl, ?_⟩) (by assumption) ?_
                            rotate_left
                            · intro w hSw
                              (try dsimp only at hSw)
                              go_simp
                              all_goals with_reducible rfl
                            (try simp only [Act.put, List.setIfInBounds_toArray, List.set_cons_zero, List.set_cons_succ])
                            refine wpAnyH_take (i := 9) (oi := ⟨some 113, _, _, _, _, _⟩) (v := ?_) rfl (by kernel_rfl) (by kernel_rfl) (by kernel_rfl) (fun _ _ _ h => False.elim h) (Or.inl ⟨by rfl, ?_⟩) (by assumption) ?_
                            rotate_left
                            · intro w hSw
                              (try dsimp only at hSw)
                              go_simp
                              all_goals with_reducible rfl
                            (try simp only [Act.put, List.setIfInBounds_toArray, List.set_cons_zero, List.set_cons_succ])
                            refine wpAnyH_take (i := 10) (oi := ⟨some 114, _, _, _, _, _⟩) (v := ?_) rfl (by kernel_rfl) (by kernel_rfl) (by kernel_rfl) (fun _ _ _ h => False.elim h) (Or.inl ⟨by rfl, ?_⟩) (by assumption) ?_
                            rotate_left
                            · intro w hSw
                              (try dsimp only at hSw)
                              go_simp
                              all_goals with_reducible rfl
                            (try simp only [Act.put, List.setIfInBounds_toArray, List.set_cons_zero, List.set_cons_succ])
                            refine wpAnyH_done (by kernel_rfl) ?_ _
                            refine NoPanic.normal ?_
                            have HOD : Hid (wr.drew.ownsRow w5.heap.size 35 36 (.slice BV qs.length dv) qs.length (flatA qs)) := Lib.hid (((Keeps.refl (fun _ => False) wr).drew).own HO8.out (fun _ _ h => h))
                            have HOSD : Hid (wr.drew.ownsRow w5.heap.size 23 1 (.slice AV t18.length cv) t18.length (t18.map (Value.int .u32))) := Lib.hid (((Keeps.refl (fun _ => False) wr).drew).own HOS.out (fun _ _ h => h))
                            have HBD : Hid (Below w5.heap.size w5 wr.drew) := Lib.hid HB8.out.drew
                            have HRD : Hid (wr.drew.rangeAt g8 (q * 36) Y) := Lib.hid HRGY.out
                            generalize wr.drew = w8 at *
                            go_wp2_with (first
                              | ((with_reducible refine wpList_isS (o := ⟨some 119, .load _ _, _, _, _, _⟩) ?_); refine wpList_want (v := .agg Y.toArray) (w' := _) (by rfl) (exec_loadM rfl g8 (q * 36) rfl Y _ HRD.out HUA.out rfl HSZY.out) ?_)
                              | ((with_reducible refine wpList_isS (o := ⟨some 120, .buildSlice _ _ _, _, _, _, _⟩) ?_); refine wpList_value (o := ⟨some 120, .buildSlice 24 1 _, _, _, _, _⟩) (v := .slice (some ⟨w8.heap.size, 0, none⟩) 1 1) (w' := w8.alloc (.cells Y.toArray 35)) rfl (by unfold execOp; simp only [Act.eval, Act.put]; simp [HBY.out]) ?_)
                              | (at_builtin; refine append_one (W := w8) w5.heap.size rfl _ _ 24 35 (.agg zACT.toArray) 36 80 rfl Try.underlying24 info_act rfl (by omega) (by omega) (.slice BV qs.length dv) qs.length (flatA qs) Y rfl rfl HYL.out HY1.out HOD.out HBD.out.size hk80 ?_; intro v1 w9 ho9 hk9 _; have HO9 := Lib.hid ho9; have HK9 := Lib.hid hk9; clear ho9 hk9))
                            go_roundw
                            case rel =>
                              refine ⟨q + 1, by omega, by go_num, ?_, HK9.out.own HOSD.out (own_own_ne HOSD.out HOD.out (by decide)), below_keeps HBD.out HK9.out (Nat.le_refl _) (fun i hi => (own_base HOD.out i hi).1)⟩
                              rw [HFN2.out, ← List.append_assoc, HQS.out, List.length_append, flatA_snoc, HYY.out]
                              exact HO9.out
                            case measure => simp [intOf]; omega
                          · have hq1 : (y.spot == a) = false := beq_eq_false_iff_ne.2 hba
                            clear hlen
                            go_wp2_with fail
                            refine wp_region_noPanic ?_
                            refine wp_region_held_drew (S := (fun w' => w'.cell? ⟨g8, q * 36 + 2, none⟩ = some (.int .u32 y.spot) ∧ w'.cell? ⟨X, 1, none⟩ = some (.slice (some ⟨b2, o2, none⟩) ln lc) ∧ w'.cell? ⟨b2, o2 + j, none⟩ = some (.int .u32 a))) (by kernel_rfl) ?_ (fun hHeld => ?_)
                            · ((try dsimp only); refine ⟨?_, ?_, ?_⟩ <;> (first | assumption | (go_keep; done)))
                            refine wpAnyH_take (i := 0) (oi := ⟨some 104, _, _, _, _, _⟩) (v := ?_) rfl (by kernel_rfl) (by kernel_rfl) (by kernel_rfl) (fun _ _ _ h => False.elim h) (Or.inl ⟨by rfl, ?_⟩) (by assumption) ?_
                            rotate_left
                            · intro w hSw
                              (try dsimp only at hSw)
                              go_simp
                              all_goals with_reducible rfl
                            (try simp only [Act.put, List.setIfInBounds_toArray, List.set_cons_zero, List.set_cons_succ])
                            refine wpAnyH_take (i := 1) (oi := ⟨some 105, _, _, _, _, _⟩) (v := ?_) rfl (by kernel_rfl) (by kernel_rfl) (by kernel_rfl) (fun _ _ _ h => False.elim h) (Or.inl ⟨by rfl, ?_⟩) (by assumption) ?_
                            rotate_left
                            · intro w hSw
                              (try dsimp only at hSw)
                              go_simp
                              all_goals with_reducible rfl
                            (try simp only [Act.put, List.setIfInBounds_toArray, List.set_cons_zero, List.set_cons_succ])
                            refine wpAnyH_take (i := 2) (oi := ⟨some 106, _, _, _, _, _⟩) (v := ?_) rfl (by kernel_rfl) (by kernel_rfl) (by kernel_rfl) (fun _ _ _ h => False.elim h) (Or.inl ⟨by rfl, ?_⟩) (by assumption) ?_
                            rotate_left
                            · intro w hSw
                              (try dsimp only at hSw)
                              go_simp
                              all_goals with_reducible rfl
                            (try simp only [Act.put, List.setIfInBounds_toArray, List.set_cons_zero, List.set_cons_succ])
                            refine wpAnyH_take (i := 3) (oi := ⟨some 107, _, _, _, _, _⟩) (v := ?_) rfl (by kernel_rfl) (by kernel_rfl) (by kernel_rfl) (fun _ _ _ h => False.elim h) (Or.inl ⟨by rfl, ?_⟩) (by assumption) ?_
                            rotate_left
                            · intro w hSw
                              (try dsimp only at hSw)
                              go_simp
                              all_goals with_reducible rfl
                            (try simp only [Act.put, List.setIfInBounds_toArray, List.set_cons_zero, List.set_cons_succ])
                            refine wpAnyH_take (i := 4) (oi := ⟨some 108, _, _, _, _, _⟩) (v := ?_) rfl (by kernel_rfl) (by kernel_rfl) (by kernel_rfl) (fun _ _ _ h => False.elim h) (Or.inl ⟨by rfl, ?_⟩) (by assumption) ?_
                            rotate_left
                            · intro w hSw
                              (try dsimp only at hSw)
                              go_simp
                              all_goals with_reducible rfl
                            (try simp only [Act.put, List.setIfInBounds_toArray, List.set_cons_zero, List.set_cons_succ])
                            refine wpAnyH_take (i := 5) (oi := ⟨some 109, _, _, _, _, _⟩) (v := ?_) rfl (by kernel_rfl) (by kernel_rfl) (by kernel_rfl) (fun _ _ _ h => False.elim h) (Or.inl ⟨by rfl, ?_⟩) (by assumption) ?_
                            rotate_left
                            · intro w hSw
                              (try dsimp only at hSw)
                              go_simp
                              all_goals with_reducible rfl
                            (try simp only [Act.put, List.setIfInBounds_toArray, List.set_cons_zero, List.set_cons_succ])
                            refine wpAnyH_take (i := 6) (oi := ⟨some 110, _, _, _, _, _⟩) (v := ?_) rfl (by kernel_rfl) (by kernel_rfl) (by kernel_rfl) (fun _ _ _ h => False.elim h) (Or.inl ⟨by rfl, ?_⟩) (by assumption) ?_
                            rotate_left
                            · intro w hSw
                              (try dsimp only at hSw)
                              go_simp
                              all_goals with_reducible rfl
                            (try simp only [Act.put, List.setIfInBounds_toArray, List.set_cons_zero, List.set_cons_succ])
                            refine wpAnyH_take (i := 7) (oi := ⟨some 111, _, _, _, _, _⟩) (v := ?_) rfl (by kernel_rfl) (by kernel_rfl) (by kernel_rfl) (fun _ _ _ h => False.elim h) (Or.inl ⟨by rfl, ?_⟩) (by assumption) ?_
                            rotate_left
                            · intro w hSw
                              (try dsimp only at hSw)
                              go_simp
                              all_goals with_reducible rfl
                            (try simp only [Act.put, List.setIfInBounds_toArray, List.set_cons_zero, List.set_cons_succ])
                            refine wpAnyH_take (i := 8) (oi := ⟨some 112, _, _, _, _, _⟩) (v := ?_) rfl (by kernel_rfl) (by kernel_rfl) (by kernel_rfl) (fun _ _ _ h => False.elim h) (Or.inl ⟨by rfl, ?_⟩) (by assumption) ?_
                            rotate_left
                            · intro w hSw
                              (try dsimp only at hSw)
                              go_simp
                              all_goals with_reducible rfl
                            (try simp only [Act.put, List.setIfInBounds_toArray, List.set_cons_zero, List.set_cons_succ])
                            refine wpAnyH_take (i := 9) (oi := ⟨some 113, _, _, _, _, _⟩) (v := ?_) rfl (by kernel_rfl) (by kernel_rfl) (by kernel_rfl) (fun _ _ _ h => False.elim h) (Or.inl ⟨by rfl, ?_⟩) (by assumption) ?_
                            rotate_left
                            · intro w hSw
                              (try dsimp only at hSw)
                              go_simp
                              all_goals with_reducible rfl
                            (try simp only [Act.put, List.setIfInBounds_toArray, List.set_cons_zero, List.set_cons_succ])
                            refine wpAnyH_take (i := 10) (oi := ⟨some 114, _, _, _, _, _⟩) (v := ?_) rfl (by kernel_rfl) (by kernel_rfl) (by kernel_rfl) (fun _ _ _ h => False.elim h) (Or.inl ⟨by rfl, ?_⟩) (by assumption) ?_
                            rotate_left
                            · intro w hSw
                              (try dsimp only at hSw)
                              go_simp
                              all_goals with_reducible rfl
                            (try simp only [Act.put, List.setIfInBounds_toArray, List.set_cons_zero, List.set_cons_succ])
                            refine wpAnyH_done (by kernel_rfl) ?_ _
                            refine NoPanic.normal ?_
                            go_wp2_with fail
                            go_roundw
                            case rel =>
                              refine ⟨q + 1, by omega, by go_num, ?_, ((Keeps.refl (fun _ => False) wr).drew).own HOS.out (fun _ _ h => h), HB8.out.drew⟩
                              rw [HFN.out, if_neg (by simpa using hba), List.append_nil, HQS.out]
                              exact ((Keeps.refl (fun _ => False) wr).drew).own HO8.out (fun _ _ h => h)
                            case measure => simp [intOf]; omega
                        · obtain rfl : q = kl := by omega
                          have e8 : K.take q = K := List.take_of_length_le (by rw [HKL.out]; omega)
                          rw [e8, ← HNXK.out] at ho hwc ⊢
                          have HO9 := Lib.hid ho
                          clear ho hoS hB8 e8
                          go_wp2_with fail
                          go_roundw
                          case rel => exact ⟨j + 1, by omega, by go_num, by rw [HT18.out]; exact HOS.out, HO9.out, HB8.out⟩
                          case measure => simp [intOf]; omega
                · obtain rfl : j = ln := by omega
                  have e1 : lx.take j = lx := List.take_of_length_le (by rw [HLL.out]; omega)
                  rw [e1] at HO18 HO19 ⊢
                  have HN : Hid (SureAt w wr p G (changeL L lx) cr (pickX id S lx) (pickX (·.spot) K lx) _ _ (k + 1)) := Lib.hid
                    ⟨HS5.out.below HB6.out, HGB.out, own_lowerS HO18.out HB5.out.size, own_lowerS HO19.out HB5.out.size, HINV.out, by have := pickX_len id lx HND.out S; have := HM7.out; omega, by have := pickX_len (fun y : Sa => y.spot) lx HND.out K; have := HKL.out; omega,
                      fun y hy => HKOK.out y (pickX_mem.1 hy).1, HB5.out.trans (HB6.out.mono HB5.out.size)⟩
                  clear e1
                  go_wp2_with fail
                  go_meet
                  case rel => exact ⟨G, _, cr, _, _, HN.out⟩
          · as_aux_lemma =>
            have HCA := Lib.hid (ask_any HST4.out.set x.spot x.sum HOKX.out.sum)
            obtain ⟨E, hE⟩ : ∃ E, askE L x.spot = E := ⟨_, rfl⟩
            have HE := Lib.hid hE
            clear hE
            go_wp2_with ((with_reducible refine wpList_isS (o := ⟨some 131, .load _ _, _, _, _, _⟩) ?_); refine wpList_want (v := .agg (x.sum.map (Value.int .u8)).toArray) (w' := _) (by rfl) (exec_loadM rfl X 3 rfl (x.sum.map (Value.int .u8)) _ d3 HU.out rfl HSZM.out) ?_)
            refine HCA.out.mono ?_; rintro e w5 ⟨X5, hX5, rfl, hS5, hK5⟩
            rw [HE.out]
            have HS5 := Lib.hid hS5
            have HK5 := Lib.hid (HK4.out.keep hK5 (fun h => HXG.out h))
            have HSV5 := Lib.hid (hK5.own HST4.out.sv (fun j hj e => own_blk_ne HST4.out.sv HST4.out.set.row (by decide) (by rw [hj, e])))
            have HKV5 := Lib.hid (hK5.own HST4.out.kv (fun j hj e => own_blk_ne HST4.out.kv HST4.out.set.row (by decide) (by rw [hj, e])))
            have HB5 := Lib.hid (below_keeps HST4.out.bel hK5 (Nat.le_refl _) (fun i hi => by rw [hi]; exact HST4.out.gb))
            clear hX5 hS5 hK5 d1 d2 d3 d4 HCA
            by_cases he0 : E = 0
            · have hq : (E == 0) = true := beq_iff_eq.2 he0
              have HASK := Lib.hid (sure_ask (X := X5) HST4.out.inv (HE.out.trans he0))
              have hkn : K.length + 1 ≤ k + 1 := by have := HST4.out.kl; omega
              have hk80 : (K.length + 1) * 80 ≤ 140737488355328 := by have := HST4.out.kl; omega
              clear he0
              go_wp2_with (first
                | ((with_reducible refine wpList_isS (o := ⟨some 135, .load _ _, _, _, _, _⟩) ?_); refine wpList_want (v := .agg CX.toArray) (w' := _) (by rfl) (exec_loadM rfl X 0 rfl CX _ HK5.out.range HUA.out rfl HSZA.out) ?_)
                | ((with_reducible refine wpList_isS (o := ⟨some 136, .buildSlice _ _ _, _, _, _, _⟩) ?_); refine wpList_value (o := ⟨some 136, .buildSlice 24 1 _, _, _, _, _⟩) (v := .slice (some ⟨w5.heap.size, 0, none⟩) 1 1) (w' := w5.alloc (.cells CX.toArray 35)) rfl (by unfold execOp; simp only [Act.eval, Act.put]; simp [HBSL.out]) ?_)
                | (at_builtin; refine append_one (W := w5) w.heap.size rfl _ _ 24 35 (.agg zACT.toArray) 36 80 rfl Try.underlying24 info_act rfl (by omega) (by omega) (.slice A8 K.length c8) K.length (flatA K) CX rfl rfl HLEN.out HONE.out HKV5.out HB5.out.size hk80 ?_; intro v1 w6 ho6 hk6 _; have HO6 := Lib.hid ho6; have HK6 := Lib.hid hk6; clear ho6 hk6))
              have HN : Hid (SureAt w w6 p g' (askL L x.spot X5 x.sum) cr S (K ++ [x]) (.slice A7 S.length c7) v1 (k + 1)) := Lib.hid
                ⟨HS5.out.keep HK6.out (fun h => own_blk_ne HKV5.out HS5.out.set (by decide) h) (fun h => own_blk_ne HKV5.out HS5.out.row (by decide) h) (fun s hs q hq h => own_blk_ne HKV5.out (HS5.out.sum s hs q hq).1 (by decide) h), HST4.out.gb,
                  HK6.out.own HSV5.out (own_own_ne HSV5.out HKV5.out (by decide)), by rw [List.length_append, flatA_snoc, HCX.out]; exact HO6.out, HASK.out, by have := HST4.out.sl; omega, by rw [List.length_append]; exact hkn,
                  fun y hy => (List.mem_append.1 hy).elim (HST4.out.kok y) (fun h => by rw [List.mem_singleton.1 h]; exact HOKX.out.sum), below_keeps HB5.out HK6.out (Nat.le_refl _) (fun i hi => (own_base HKV5.out i hi).1)⟩
              go_wp2_with fail
              go_meet
              case rel => exact ⟨g', _, cr, S, K ++ [x], HN.out⟩
            · have hq : (E == 0) = false := beq_eq_false_iff_ne.2 he0
              have HN : Hid (SureAt w w5 p g' L cr S K (.slice A7 S.length c7) (.slice A8 K.length c8) (k + 1)) := Lib.hid (SureAt.next ⟨by have := HS5.out; unfold askL at this; rwa [if_neg (by rw [HE.out]; exact he0)] at this, HST4.out.gb, HSV5.out, HKV5.out, HST4.out.inv, HST4.out.sl, HST4.out.kl, HST4.out.kok, HB5.out⟩)
              clear he0
              go_wp2_with fail
              go_meet
              case rel => exact ⟨g', L, cr, S, K, HN.out⟩
          · as_aux_lemma =>
            have HCA := Lib.hid (ask_any HST4.out.set x.spot x.sum HOKX.out.sum)
            obtain ⟨E, hE⟩ : ∃ E, askE L x.spot = E := ⟨_, rfl⟩
            have HE := Lib.hid hE
            clear hE
            go_wp2_with ((with_reducible refine wpList_isS (o := ⟨some 131, .load _ _, _, _, _, _⟩) ?_); refine wpList_want (v := .agg (x.sum.map (Value.int .u8)).toArray) (w' := _) (by rfl) (exec_loadM rfl X 3 rfl (x.sum.map (Value.int .u8)) _ d3 HU.out rfl HSZM.out) ?_)
            refine HCA.out.mono ?_; rintro e w5 ⟨X5, hX5, rfl, hS5, hK5⟩
            rw [HE.out]
            have HS5 := Lib.hid hS5
            have HK5 := Lib.hid (HK4.out.keep hK5 (fun h => HXG.out h))
            have HSV5 := Lib.hid (hK5.own HST4.out.sv (fun j hj e => own_blk_ne HST4.out.sv HST4.out.set.row (by decide) (by rw [hj, e])))
            have HKV5 := Lib.hid (hK5.own HST4.out.kv (fun j hj e => own_blk_ne HST4.out.kv HST4.out.set.row (by decide) (by rw [hj, e])))
            have HB5 := Lib.hid (below_keeps HST4.out.bel hK5 (Nat.le_refl _) (fun i hi => by rw [hi]; exact HST4.out.gb))
            clear hX5 hS5 hK5 d1 d2 d3 d4 HCA
            by_cases he0 : E = 0
            · have hq : (E == 0) = true := beq_iff_eq.2 he0
              have HASK := Lib.hid (sure_ask (X := X5) HST4.out.inv (HE.out.trans he0))
              have hkn : K.length + 1 ≤ k + 1 := by have := HST4.out.kl; omega
              have hk80 : (K.length + 1) * 80 ≤ 140737488355328 := by have := HST4.out.kl; omega
              clear he0
              go_wp2_with (first
                | ((with_reducible refine wpList_isS (o := ⟨some 135, .load _ _, _, _, _, _⟩) ?_); refine wpList_want (v := .agg CX.toArray) (w' := _) (by rfl) (exec_loadM rfl X 0 rfl CX _ HK5.out.range HUA.out rfl HSZA.out) ?_)
                | ((with_reducible refine wpList_isS (o := ⟨some 136, .buildSlice _ _ _, _, _, _, _⟩) ?_); refine wpList_value (o := ⟨some 136, .buildSlice 24 1 _, _, _, _, _⟩) (v := .slice (some ⟨w5.heap.size, 0, none⟩) 1 1) (w' := w5.alloc (.cells CX.toArray 35)) rfl (by unfold execOp; simp only [Act.eval, Act.put]; simp [HBSL.out]) ?_)
                | (at_builtin; refine append_one (W := w5) w.heap.size rfl _ _ 24 35 (.agg zACT.toArray) 36 80 rfl Try.underlying24 info_act rfl (by omega) (by omega) (.slice A8 K.length c8) K.length (flatA K) CX rfl rfl HLEN.out HONE.out HKV5.out HB5.out.size hk80 ?_; intro v1 w6 ho6 hk6 _; have HO6 := Lib.hid ho6; have HK6 := Lib.hid hk6; clear ho6 hk6))
              have HN : Hid (SureAt w w6 p g' (askL L x.spot X5 x.sum) cr S (K ++ [x]) (.slice A7 S.length c7) v1 (k + 1)) := Lib.hid
                ⟨HS5.out.keep HK6.out (fun h => own_blk_ne HKV5.out HS5.out.set (by decide) h) (fun h => own_blk_ne HKV5.out HS5.out.row (by decide) h) (fun s hs q hq h => own_blk_ne HKV5.out (HS5.out.sum s hs q hq).1 (by decide) h), HST4.out.gb,
                  HK6.out.own HSV5.out (own_own_ne HSV5.out HKV5.out (by decide)), by rw [List.length_append, flatA_snoc, HCX.out]; exact HO6.out, HASK.out, by have := HST4.out.sl; omega, by rw [List.length_append]; exact hkn,
                  fun y hy => (List.mem_append.1 hy).elim (HST4.out.kok y) (fun h => by rw [List.mem_singleton.1 h]; exact HOKX.out.sum), below_keeps HB5.out HK6.out (Nat.le_refl _) (fun i hi => (own_base HKV5.out i hi).1)⟩
              go_wp2_with fail
              go_meet
              case rel => exact ⟨g', _, cr, S, K ++ [x], HN.out⟩
            · have hq : (E == 0) = false := beq_eq_false_iff_ne.2 he0
              have HN : Hid (SureAt w w5 p g' L cr S K (.slice A7 S.length c7) (.slice A8 K.length c8) (k + 1)) := Lib.hid (SureAt.next ⟨by have := HS5.out; unfold askL at this; rwa [if_neg (by rw [HE.out]; exact he0)] at this, HST4.out.gb, HSV5.out, HKV5.out, HST4.out.inv, HST4.out.sl, HST4.out.kl, HST4.out.kok, HB5.out⟩)
              clear he0
              go_wp2_with fail
              go_meet
              case rel => exact ⟨g', L, cr, S, K, HN.out⟩
          · as_aux_lemma =>
            have HBA := Lib.hid (back_any HST4.out.set x.sum HOKX.out.sum)
            obtain ⟨a, E, hE⟩ : ∃ a E, backE L x.sum = (a, E) := ⟨_, _, rfl⟩
            have HE := Lib.hid hE
            clear hE
            go_wp2_with ((with_reducible refine wpList_isS (o := ⟨some 144, .load _ _, _, _, _, _⟩) ?_); refine wpList_want (v := .agg (x.sum.map (Value.int .u8)).toArray) (w' := _) (by rfl) (exec_loadM rfl X 3 rfl (x.sum.map (Value.int .u8)) _ d3 HU.out rfl HSZM.out) ?_)
            refine HBA.out.mono ?_; rintro e w5 ⟨rfl, hS5, hK5⟩
            rw [HE.out]
            dsimp only
            have HS5 := Lib.hid hS5
            have HK5 := Lib.hid (HK4.out.keep hK5 (fun h => HXG.out h))
            have HSV5 := Lib.hid (hK5.own HST4.out.sv (fun j hj e => own_blk_ne HST4.out.sv HST4.out.set.row (by decide) (by rw [hj, e])))
            have HKV5 := Lib.hid (hK5.own HST4.out.kv (fun j hj e => own_blk_ne HST4.out.kv HST4.out.set.row (by decide) (by rw [hj, e])))
            have HB5 := Lib.hid (below_keeps HST4.out.bel hK5 (Nat.le_refl _) (fun i hi => by rw [hi]; exact HST4.out.gb))
            clear hS5 hK5 d1 d2 d3 d4 HBA
            by_cases he0 : E = 0
            · obtain ⟨hinv, hlast⟩ := sure_back HST4.out.inv (HE.out.trans (by rw [he0]))
              have hq : (E != 0) = false := by rw [he0]; rfl
              have HINV := Lib.hid hinv
              have HLAST := Lib.hid hlast
              have HKC : Hid (∀ W, Below w5.heap.size w5 W → 0 < K.length → ∃ g8, A8 = some ⟨g8, 0, none⟩ ∧ ∀ m y, K[m]? = some y → W.rangeAt g8 (m * 36) (saC y)) := Lib.hid (fun W hW h0 => by
                obtain ⟨g8, e, hl, hr⟩ := rowA_at HKV5.out HST4.out.kok h0
                exact ⟨g8, e, fun m y hy i v hv => (hW.cell (p := ⟨g8, m * 36 + i, none⟩) hl).trans (hr m y hy i v hv)⟩)
              have HASU := Lib.hid alloc_sumS
              have HZS : Hid (zSUMS.length = 32) := Lib.hid (by rfl)
              have HSZZ : Hid ((Try.prog.info? 33).map (·.size) = some zSUMS.length) := Lib.hid (by rw [show zSUMS.length = 32 from rfl]; exact size_sumS)
              have HONZ : Hid (∀ v ∈ zSUMS, v.oneCell' = true) := Lib.hid ints_one
              have HKK := Lib.hid HST4.out.kok
              obtain ⟨kl, hkl⟩ : ∃ n, K.length = n := ⟨_, rfl⟩
              have HKL := Lib.hid hkl
              have hkl2 : kl ≤ k := by rw [← hkl]; exact HST4.out.kl
              rw [hkl]
              obtain ⟨T, hT⟩ : ∃ T, w5.heap.size = T := ⟨_, rfl⟩
              have HT := Lib.hid hT
              clear he0 hinv hlast hkl hT
              go_upto_region 39 with (first
                | ((with_reducible refine wpList_isS (o := ⟨some 13, .alloc _, _, _, _, _⟩) ?_); refine wpList_allocT rfl 33 zSUMS (fun W => HASU.out W _ rfl _) ?_; intro w6 HK6 HB6; rw [HT.out] at HK6 ⊢)
                | ((with_reducible refine wpList_isS (o := ⟨none, .store 33 _ _, _, _, _, _⟩) ?_); refine wpList_over rfl 33 _ _ rfl T zSUMS zSUMS 33 rfl rfl HK6.out rfl HSZZ.out HONZ.out ?_; intro w7 HK7 hk7))
              have HB7 : Hid (Below w5.heap.size w5 w7) := Lib.hid (below_keeps HB6.out hk7.out (Nat.le_refl _) (fun i hi => by rw [hi, HT.out]; exact Nat.le_refl _))
              have HK7' : Hid (Blk w7 T 33 ((List.replicate 32 (0 : Int)).map (Value.int .u8))) := Lib.hid HK7.out
              clear HB6 hk7 HK6 HK7
              obtain ⟨wo, hwo⟩ : ∃ wo : World, wo = wr := ⟨_, rfl⟩
              subst hwo
              go_wp2_with fail
              go_loopw [14, 15] (fun q i wr => ∃ (m : Nat) (lv : List Int), m ≤ kl ∧ i = .int .i64 m ∧ q = .bool (lastK (K.take m) a).isSome ∧ lv.length = 32 ∧ (∀ l, lastK (K.take m) a = some l → lv = l) ∧ Blk wr T 33 (lv.map (Value.int .u8)) ∧ Below w5.heap.size w5 wr) (fun _ i _ => kl - (intOf i).toNat)
              case atStart => exact ⟨0, List.replicate 32 0, Nat.zero_le _, rfl, rfl, by simp, fun l h => by simp [lastK] at h, HK7'.out, HB7.out⟩
              case round =>
                obtain ⟨m, lv, hm, rfl, rfl, hlv, hll, hkb, hB8⟩ := hrel
                have HLV := Lib.hid hlv
                have HLL := Lib.hid hll
                have HKB := Lib.hid hkb
                have HB8 := Lib.hid hB8
                clear hlv hll hkb hB8
                by_cases hml : m < kl
                · obtain ⟨y, hy⟩ : ∃ y, K[m]? = some y := ⟨_, List.getElem?_eq_getElem (by rw [HKL.out]; exact hml)⟩
                  obtain ⟨g8, rfl, hc8⟩ := HKC.out wr HB8.out (by rw [HKL.out]; omega)
                  have hys := HKK.out y (List.mem_of_getElem? hy)
                  obtain ⟨-, -, y2, y3, -⟩ := sa_at (hc8 m y hy) hys
                  have HLN := Lib.hid (lastK_next (a := a) hy)
                  have HY3 := Lib.hid y3
                  have HYS := Lib.hid hys
                  have HSZY : Hid ((Try.prog.info? 33).map (·.size) = some (y.sum.map (Value.int .u8)).length) := Lib.hid (by rw [List.length_map, hys]; exact size_sumS)
                  have m0 : (0 : Int) ≤ (m : Int) := by omega
                  have m1 : (m : Int) < (kl : Int) := by omega
                  obtain ⟨is, his⟩ : ∃ q, (lastK (K.take m) a).isSome = q := ⟨_, rfl⟩
                  rw [his]
                  have HIS := Lib.hid his
                  clear hy hc8 hys y3 his
                  by_cases hsp : y.spot = a
                  · have hq1 : (y.spot == a) = true := beq_iff_eq.2 hsp
                    have HLN2 : Hid (lastK (K.take (m + 1)) a = some y.sum) := Lib.hid (by rw [HLN.out, if_pos hq1])
                    clear hsp
                    go_wp2_with (first
                      | ((with_reducible refine wpList_isS (o := ⟨some 168, .load _ _, _, _, _, _⟩) ?_); refine wpList_want (v := .agg (y.sum.map (Value.int .u8)).toArray) (w' := _) (by rfl) (exec_loadM rfl g8 (m * 36 + 3) rfl (y.sum.map (Value.int .u8)) _ HY3.out HU.out rfl HSZY.out) ?_)
                      | ((with_reducible refine wpList_isS (o := ⟨none, .store 33 _ _, _, _, _, _⟩) ?_); refine wpList_over rfl 33 _ _ rfl T (y.sum.map (Value.int .u8)) (lv.map (Value.int .u8)) 33 rfl rfl HKB.out (by rw [List.length_map, List.length_map, HYS.out, HLV.out]) HSZY.out ints_one ?_; intro w9 HK9 hk9))
                    go_roundw
                    case rel => exact ⟨m + 1, y.sum, by omega, by go_num, by rw [HLN2.out]; rfl, HYS.out, fun l h => by rw [HLN2.out] at h; injection h, HK9.out, below_keeps HB8.out hk9.out (Nat.le_refl _) (fun i hi => by rw [hi, HT.out]; exact Nat.le_refl _)⟩
                    case measure => simp [intOf]; omega
                  · have hq1 : (y.spot == a) = false := beq_eq_false_iff_ne.2 hsp
                    have HLN2 : Hid (lastK (K.take (m + 1)) a = lastK (K.take m) a) := Lib.hid (by rw [HLN.out, if_neg (by rw [hq1]; exact Bool.false_ne_true)])
                    clear hsp
                    go_wp2_with fail
                    go_roundw
                    case rel => exact ⟨m + 1, lv, by omega, by go_num, by rw [HLN2.out, HIS.out], HLV.out, fun l h => HLL.out l (by rw [← HLN2.out]; exact h), HKB.out, HB8.out⟩
                    case measure => simp [intOf]; omega
                · obtain rfl : m = kl := by omega
                  have hlk : lastK (K.take m) a = some x.sum := by rw [List.take_of_length_le (by rw [HKL.out]; omega)]; exact HLAST.out
                  have hlx : lv = x.sum := HLL.out _ hlk
                  rw [hlk]
                  subst hlx
                  have HEQS := Lib.hid (fun W => (sum_eq x.sum x.sum HOKX.out.sum HOKX.out.sum W).trans (by rw [beq_self_eq_true]))
                  have hrX := (HCELL.out wr (HK5.out.below HB8.out HK5.out.lt)).2.2.2.1
                  have HRX := Lib.hid hrX
                  have HSV8 := Lib.hid ((Keeps.of_below (M := fun _ => False) HB8.out).own HSV5.out (fun _ _ h => h))
                  have HBW := Lib.hid (HB5.out.trans (HB8.out.mono HB5.out.size))
                  have hs80 : (S.length + 1) * 4 ≤ 140737488355328 := by have := HST4.out.sl; omega
                  clear hlk hrX
                  go_wp2_with (first
                    | ((with_reducible refine wpList_isS (o := ⟨some 172, .load _ _, _, _, _, _⟩) ?_); refine wpList_want (v := .agg (x.sum.map (Value.int .u8)).toArray) (w' := _) (by rfl) (exec_loadM rfl T 0 rfl (x.sum.map (Value.int .u8)) _ HKB.out.range HU.out rfl HSZM.out) ?_)
                    | ((with_reducible refine wpList_isS (o := ⟨some 174, .load _ _, _, _, _, _⟩) ?_); refine wpList_want (v := .agg (x.sum.map (Value.int .u8)).toArray) (w' := _) (by rfl) (exec_loadM rfl X 3 rfl (x.sum.map (Value.int .u8)) _ HRX.out HU.out rfl HSZM.out) ?_)
                    | ((with_reducible refine wpList_isS (o := ⟨some 175, .binOp _ _ _ _ _, _, _, _, _⟩) ?_); refine wpList_want (v := .bool false) (w' := _) (by rfl) (exec_neqSS (x.sum.map (Value.int .u8)).toArray rfl rfl rfl nog_sumS (HEQS.out _)) ?_)
                    | (at_builtin; refine append_int (W := wr) w.heap.size rfl _ _ 31 23 .u32 4 rfl Try.underlying31 info_spotS (by omega) (.slice A7 S.length c7) S.length S a rfl rfl HSV8.out HBW.out.size hs80 ?_; intro v1 w9 ho9 hk9 _; have HO9 := Lib.hid ho9; have HK9 := Lib.hid hk9; clear ho9 hk9))
                  have HS8 := Lib.hid (HS5.out.below HB8.out)
                  have HKV8 := Lib.hid ((Keeps.of_below (M := fun _ => False) HB8.out).own HKV5.out (fun _ _ h => h))
                  have HN : Hid (SureAt w w9 p g' (backL L x.sum) cr (S ++ [a]) K v1 (.slice A8 m c8) (k + 1)) := Lib.hid
                    ⟨HS8.out.keep HK9.out (fun h => own_blk_ne HSV8.out HS8.out.set (by decide) h) (fun h => own_blk_ne HSV8.out HS8.out.row (by decide) h) (fun s hs q hq h => own_blk_ne HSV8.out (HS8.out.sum s hs q hq).1 (by decide) h), HST4.out.gb,
                      by rw [List.length_append]; exact HO9.out, by rw [← HKL.out]; exact HK9.out.own HKV8.out (own_own_ne HKV8.out HSV8.out (by decide)), HINV.out, by rw [List.length_append]; have := HST4.out.sl; simp; omega, by have := HST4.out.kl; omega, HKK.out, below_keeps HBW.out HK9.out (Nat.le_refl _) (fun i hi => (own_base HSV8.out i hi).1)⟩
                  go_wp2_with fail
                  go_meet
                  case rel => exact ⟨g', _, cr, S ++ [a], K, HN.out⟩
            · have hq : (E != 0) = true := by simpa using he0
              have HL : Hid (backL L x.sum = L) := Lib.hid (by
                unfold backL
                refine updF_no (fun s hs => ?_)
                have hE := HE.out
                unfold backE at hE
                cases hf : L.find? (isSum x.sum) with
                | none => have := List.find?_eq_none.1 hf s hs; simpa using this
                | some t => rw [hf] at hE; simp at hE; exact absurd hE.2.symm he0)
              have HN : Hid (SureAt w w5 p g' L cr S K (.slice A7 S.length c7) (.slice A8 K.length c8) (k + 1)) := Lib.hid (SureAt.next ⟨by have := HS5.out; rwa [HL.out] at this, HST4.out.gb, HSV5.out, HKV5.out, HST4.out.inv, HST4.out.sl, HST4.out.kl, HST4.out.kok, HB5.out⟩)
              clear he0
              go_wp2_with fail
              go_roundw
              case rel => exact ⟨k + 1, g', L, cr, S, K, by omega, by go_num, HN.out⟩
              case measure => simp [intOf]; omega
          · as_aux_lemma =>
            have HBA := Lib.hid (back_any HST4.out.set x.sum HOKX.out.sum)
            obtain ⟨a, E, hE⟩ : ∃ a E, backE L x.sum = (a, E) := ⟨_, _, rfl⟩
            have HE := Lib.hid hE
            clear hE
            go_wp2_with ((with_reducible refine wpList_isS (o := ⟨some 144, .load _ _, _, _, _, _⟩) ?_); refine wpList_want (v := .agg (x.sum.map (Value.int .u8)).toArray) (w' := _) (by rfl) (exec_loadM rfl X 3 rfl (x.sum.map (Value.int .u8)) _ d3 HU.out rfl HSZM.out) ?_)
            refine HBA.out.mono ?_; rintro e w5 ⟨rfl, hS5, hK5⟩
            rw [HE.out]
            dsimp only
            have HS5 := Lib.hid hS5
            have HK5 := Lib.hid (HK4.out.keep hK5 (fun h => HXG.out h))
            have HSV5 := Lib.hid (hK5.own HST4.out.sv (fun j hj e => own_blk_ne HST4.out.sv HST4.out.set.row (by decide) (by rw [hj, e])))
            have HKV5 := Lib.hid (hK5.own HST4.out.kv (fun j hj e => own_blk_ne HST4.out.kv HST4.out.set.row (by decide) (by rw [hj, e])))
            have HB5 := Lib.hid (below_keeps HST4.out.bel hK5 (Nat.le_refl _) (fun i hi => by rw [hi]; exact HST4.out.gb))
            clear hS5 hK5 d1 d2 d3 d4 HBA
            by_cases he0 : E = 0
            · obtain ⟨hinv, hlast⟩ := sure_back HST4.out.inv (HE.out.trans (by rw [he0]))
              have hq : (E != 0) = false := by rw [he0]; rfl
              have HINV := Lib.hid hinv
              have HLAST := Lib.hid hlast
              have HKC : Hid (∀ W, Below w5.heap.size w5 W → 0 < K.length → ∃ g8, A8 = some ⟨g8, 0, none⟩ ∧ ∀ m y, K[m]? = some y → W.rangeAt g8 (m * 36) (saC y)) := Lib.hid (fun W hW h0 => by
                obtain ⟨g8, e, hl, hr⟩ := rowA_at HKV5.out HST4.out.kok h0
                exact ⟨g8, e, fun m y hy i v hv => (hW.cell (p := ⟨g8, m * 36 + i, none⟩) hl).trans (hr m y hy i v hv)⟩)
              have HASU := Lib.hid alloc_sumS
              have HZS : Hid (zSUMS.length = 32) := Lib.hid (by rfl)
              have HSZZ : Hid ((Try.prog.info? 33).map (·.size) = some zSUMS.length) := Lib.hid (by rw [show zSUMS.length = 32 from rfl]; exact size_sumS)
              have HONZ : Hid (∀ v ∈ zSUMS, v.oneCell' = true) := Lib.hid ints_one
              have HKK := Lib.hid HST4.out.kok
              obtain ⟨kl, hkl⟩ : ∃ n, K.length = n := ⟨_, rfl⟩
              have HKL := Lib.hid hkl
              have hkl2 : kl ≤ k := by rw [← hkl]; exact HST4.out.kl
              rw [hkl]
              obtain ⟨T, hT⟩ : ∃ T, w5.heap.size = T := ⟨_, rfl⟩
              have HT := Lib.hid hT
              clear he0 hinv hlast hkl hT
              go_upto_region 39 with (first
                | ((with_reducible refine wpList_isS (o := ⟨some 13, .alloc _, _, _, _, _⟩) ?_); refine wpList_allocT rfl 33 zSUMS (fun W => HASU.out W _ rfl _) ?_; intro w6 HK6 HB6; rw [HT.out] at HK6 ⊢)
                | ((with_reducible refine wpList_isS (o := ⟨none, .store 33 _ _, _, _, _, _⟩) ?_); refine wpList_over rfl 33 _ _ rfl T zSUMS zSUMS 33 rfl rfl HK6.out rfl HSZZ.out HONZ.out ?_; intro w7 HK7 hk7))
              have HB7 : Hid (Below w5.heap.size w5 w7) := Lib.hid (below_keeps HB6.out hk7.out (Nat.le_refl _) (fun i hi => by rw [hi, HT.out]; exact Nat.le_refl _))
              have HK7' : Hid (Blk w7 T 33 ((List.replicate 32 (0 : Int)).map (Value.int .u8))) := Lib.hid HK7.out
              clear HB6 hk7 HK6 HK7
              obtain ⟨wo, hwo⟩ : ∃ wo : World, wo = wr := ⟨_, rfl⟩
              subst hwo
              go_wp2_with fail
              go_loopw [14, 15] (fun q i wr => ∃ (m : Nat) (lv : List Int), m ≤ kl ∧ i = .int .i64 m ∧ q = .bool (lastK (K.take m) a).isSome ∧ lv.length = 32 ∧ (∀ l, lastK (K.take m) a = some l → lv = l) ∧ Blk wr T 33 (lv.map (Value.int .u8)) ∧ Below w5.heap.size w5 wr) (fun _ i _ => kl - (intOf i).toNat)
              case atStart => exact ⟨0, List.replicate 32 0, Nat.zero_le _, rfl, rfl, by simp, fun l h => by simp [lastK] at h, HK7'.out, HB7.out⟩
              case round =>
                obtain ⟨m, lv, hm, rfl, rfl, hlv, hll, hkb, hB8⟩ := hrel
                have HLV := Lib.hid hlv
                have HLL := Lib.hid hll
                have HKB := Lib.hid hkb
                have HB8 := Lib.hid hB8
                clear hlv hll hkb hB8
                by_cases hml : m < kl
                · obtain ⟨y, hy⟩ : ∃ y, K[m]? = some y := ⟨_, List.getElem?_eq_getElem (by rw [HKL.out]; exact hml)⟩
                  obtain ⟨g8, rfl, hc8⟩ := HKC.out wr HB8.out (by rw [HKL.out]; omega)
                  have hys := HKK.out y (List.mem_of_getElem? hy)
                  obtain ⟨-, -, y2, y3, -⟩ := sa_at (hc8 m y hy) hys
                  have HLN := Lib.hid (lastK_next (a := a) hy)
                  have HY3 := Lib.hid y3
                  have HYS := Lib.hid hys
                  have HSZY : Hid ((Try.prog.info? 33).map (·.size) = some (y.sum.map (Value.int .u8)).length) := Lib.hid (by rw [List.length_map, hys]; exact size_sumS)
                  have m0 : (0 : Int) ≤ (m : Int) := by omega
                  have m1 : (m : Int) < (kl : Int) := by omega
                  obtain ⟨is, his⟩ : ∃ q, (lastK (K.take m) a).isSome = q := ⟨_, rfl⟩
                  rw [his]
                  have HIS := Lib.hid his
                  clear hy hc8 hys y3 his
                  by_cases hsp : y.spot = a
                  · have hq1 : (y.spot == a) = true := beq_iff_eq.2 hsp
                    have HLN2 : Hid (lastK (K.take (m + 1)) a = some y.sum) := Lib.hid (by rw [HLN.out, if_pos hq1])
                    clear hsp
                    go_wp2_with (first
                      | ((with_reducible refine wpList_isS (o := ⟨some 168, .load _ _, _, _, _, _⟩) ?_); refine wpList_want (v := .agg (y.sum.map (Value.int .u8)).toArray) (w' := _) (by rfl) (exec_loadM rfl g8 (m * 36 + 3) rfl (y.sum.map (Value.int .u8)) _ HY3.out HU.out rfl HSZY.out) ?_)
                      | ((with_reducible refine wpList_isS (o := ⟨none, .store 33 _ _, _, _, _, _⟩) ?_); refine wpList_over rfl 33 _ _ rfl T (y.sum.map (Value.int .u8)) (lv.map (Value.int .u8)) 33 rfl rfl HKB.out (by rw [List.length_map, List.length_map, HYS.out, HLV.out]) HSZY.out ints_one ?_; intro w9 HK9 hk9))
                    go_roundw
                    case rel => exact ⟨m + 1, y.sum, by omega, by go_num, by rw [HLN2.out]; rfl, HYS.out, fun l h => by rw [HLN2.out] at h; injection h, HK9.out, below_keeps HB8.out hk9.out (Nat.le_refl _) (fun i hi => by rw [hi, HT.out]; exact Nat.le_refl _)⟩
                    case measure => simp [intOf]; omega
                  · have hq1 : (y.spot == a) = false := beq_eq_false_iff_ne.2 hsp
                    have HLN2 : Hid (lastK (K.take (m + 1)) a = lastK (K.take m) a) := Lib.hid (by rw [HLN.out, if_neg (by rw [hq1]; exact Bool.false_ne_true)])
                    clear hsp
                    go_wp2_with fail
                    go_roundw
                    case rel => exact ⟨m + 1, lv, by omega, by go_num, by rw [HLN2.out, HIS.out], HLV.out, fun l h => HLL.out l (by rw [← HLN2.out]; exact h), HKB.out, HB8.out⟩
                    case measure => simp [intOf]; omega
                · obtain rfl : m = kl := by omega
                  have hlk : lastK (K.take m) a = some x.sum := by rw [List.take_of_length_le (by rw [HKL.out]; omega)]; exact HLAST.out
                  have hlx : lv = x.sum := HLL.out _ hlk
                  rw [hlk]
                  subst hlx
                  have HEQS := Lib.hid (fun W => (sum_eq x.sum x.sum HOKX.out.sum HOKX.out.sum W).trans (by rw [beq_self_eq_true]))
                  have hrX := (HCELL.out wr (HK5.out.below HB8.out HK5.out.lt)).2.2.2.1
                  have HRX := Lib.hid hrX
                  have HSV8 := Lib.hid ((Keeps.of_below (M := fun _ => False) HB8.out).own HSV5.out (fun _ _ h => h))
                  have HBW := Lib.hid (HB5.out.trans (HB8.out.mono HB5.out.size))
                  have hs80 : (S.length + 1) * 4 ≤ 140737488355328 := by have := HST4.out.sl; omega
                  clear hlk hrX
                  go_wp2_with (first
                    | ((with_reducible refine wpList_isS (o := ⟨some 172, .load _ _, _, _, _, _⟩) ?_); refine wpList_want (v := .agg (x.sum.map (Value.int .u8)).toArray) (w' := _) (by rfl) (exec_loadM rfl T 0 rfl (x.sum.map (Value.int .u8)) _ HKB.out.range HU.out rfl HSZM.out) ?_)
                    | ((with_reducible refine wpList_isS (o := ⟨some 174, .load _ _, _, _, _, _⟩) ?_); refine wpList_want (v := .agg (x.sum.map (Value.int .u8)).toArray) (w' := _) (by rfl) (exec_loadM rfl X 3 rfl (x.sum.map (Value.int .u8)) _ HRX.out HU.out rfl HSZM.out) ?_)
                    | ((with_reducible refine wpList_isS (o := ⟨some 175, .binOp _ _ _ _ _, _, _, _, _⟩) ?_); refine wpList_want (v := .bool false) (w' := _) (by rfl) (exec_neqSS (x.sum.map (Value.int .u8)).toArray rfl rfl rfl nog_sumS (HEQS.out _)) ?_)
                    | (at_builtin; refine append_int (W := wr) w.heap.size rfl _ _ 31 23 .u32 4 rfl Try.underlying31 info_spotS (by omega) (.slice A7 S.length c7) S.length S a rfl rfl HSV8.out HBW.out.size hs80 ?_; intro v1 w9 ho9 hk9 _; have HO9 := Lib.hid ho9; have HK9 := Lib.hid hk9; clear ho9 hk9))
                  have HS8 := Lib.hid (HS5.out.below HB8.out)
                  have HKV8 := Lib.hid ((Keeps.of_below (M := fun _ => False) HB8.out).own HKV5.out (fun _ _ h => h))
                  have HN : Hid (SureAt w w9 p g' (backL L x.sum) cr (S ++ [a]) K v1 (.slice A8 m c8) (k + 1)) := Lib.hid
                    ⟨HS8.out.keep HK9.out (fun h => own_blk_ne HSV8.out HS8.out.set (by decide) h) (fun h => own_blk_ne HSV8.out HS8.out.row (by decide) h) (fun s hs q hq h => own_blk_ne HSV8.out (HS8.out.sum s hs q hq).1 (by decide) h), HST4.out.gb,
                      by rw [List.length_append]; exact HO9.out, by rw [← HKL.out]; exact HK9.out.own HKV8.out (own_own_ne HKV8.out HSV8.out (by decide)), HINV.out, by rw [List.length_append]; have := HST4.out.sl; simp; omega, by have := HST4.out.kl; omega, HKK.out, below_keeps HBW.out HK9.out (Nat.le_refl _) (fun i hi => (own_base HSV8.out i hi).1)⟩
                  go_wp2_with fail
                  go_meet
                  case rel => exact ⟨g', _, cr, S ++ [a], K, HN.out⟩
            · have hq : (E != 0) = true := by simpa using he0
              have HL : Hid (backL L x.sum = L) := Lib.hid (by
                unfold backL
                refine updF_no (fun s hs => ?_)
                have hE := HE.out
                unfold backE at hE
                cases hf : L.find? (isSum x.sum) with
                | none => have := List.find?_eq_none.1 hf s hs; simpa using this
                | some t => rw [hf] at hE; simp at hE; exact absurd hE.2.symm he0)
              have HN : Hid (SureAt w w5 p g' L cr S K (.slice A7 S.length c7) (.slice A8 K.length c8) (k + 1)) := Lib.hid (SureAt.next ⟨by have := HS5.out; rwa [HL.out] at this, HST4.out.gb, HSV5.out, HKV5.out, HST4.out.inv, HST4.out.sl, HST4.out.kl, HST4.out.kok, HB5.out⟩)
              clear he0
              go_wp2_with fail
              go_roundw
              case rel => exact ⟨k + 1, g', L, cr, S, K, by omega, by go_num, HN.out⟩
              case measure => simp [intOf]; omega
          · as_aux_lemma =>
            have hby := HOKX.out.bytes
            have HCA := Lib.hid (came_any HST4.out.set x.bytes hby)
            clear hby
            go_wp2_with fail
            refine HCA.out.mono ?_; rintro e w5 ⟨rfl, hS5, hK5⟩
            have HN : Hid (SureAt w w5 p g' L (cameC cr x.bytes) S K (.slice A7 S.length c7) (.slice A8 K.length c8) (k + 1)) := Lib.hid (SureAt.next ⟨hS5, HST4.out.gb, hK5.own HST4.out.sv (fun j hj e => own_blk_ne HST4.out.sv HST4.out.set.set (by decide) (by rw [hj, e])), hK5.own HST4.out.kv (fun j hj e => own_blk_ne HST4.out.kv HST4.out.set.set (by decide) (by rw [hj, e])), HST4.out.inv, HST4.out.sl, HST4.out.kl, HST4.out.kok, below_keeps HST4.out.bel hK5 (Nat.le_refl _) (fun i hi => by rw [hi]; exact HP.out)⟩)
            clear hS5 hK5
            go_wp2_with fail
            go_meet
            case rel => exact ⟨g', L, _, S, K, HN.out⟩
          · as_aux_lemma =>
            have hby := HOKX.out.bytes
            have HCA := Lib.hid (spend_any HST4.out.set x.bytes hby)
            clear hby
            go_wp2_with fail
            refine HCA.out.mono ?_; rintro e w5 ⟨rfl, hS5, hK5⟩
            have HN : Hid (SureAt w w5 p g' L (spendC L cr x.bytes) S K (.slice A7 S.length c7) (.slice A8 K.length c8) (k + 1)) := Lib.hid (SureAt.next ⟨hS5, HST4.out.gb, hK5.own HST4.out.sv (fun j hj e => own_blk_ne HST4.out.sv HST4.out.set.set (by decide) (by rw [hj, e])), hK5.own HST4.out.kv (fun j hj e => own_blk_ne HST4.out.kv HST4.out.set.set (by decide) (by rw [hj, e])), HST4.out.inv, HST4.out.sl, HST4.out.kl, HST4.out.kok, below_keeps HST4.out.bel hK5 (Nat.le_refl _) (fun i hi => by rw [hi]; exact HP.out)⟩)
            clear hS5 hK5
            go_wp2_with fail
            go_meet
            case rel => exact ⟨g', L, _, S, K, HN.out⟩
        case rest =>
         as_aux_lemma =>
          obtain ⟨g2, L2, cr2, S2, K2, hs2⟩ := hcut
          obtain ⟨B7, d7, rfl, h7d, h7n, -⟩ := own_slice hs2.sv
          have HS2 := Lib.hid hs2
          have HSV := Lib.hid hs2.inv
          have HP4 := Lib.hid (And.intro i0 i1)
          clear HCELL HST HST4 HX8 HX HK4 HRNG HSZA HLEN HONE HAACT HZA HCX HOKX i0 i1 h7c h7m h8c h8m
          obtain ⟨wo, hwo⟩ : ∃ wo : World, wo = wr := ⟨_, rfl⟩
          subst hwo
          obtain ⟨m7, hm7⟩ : ∃ m, S2.length = m := ⟨_, rfl⟩
          have HM7 := Lib.hid hm7
          obtain ⟨n2, hn2⟩ : ∃ m, L2.length = m := ⟨_, rfl⟩
          have HN2 := Lib.hid hn2
          have hn24 : n2 ≤ 4 := by have := hs2.set.len; omega
          have hm7b : m7 ≤ 9223372036854775806 := by unfold maxLen at h7n; have := hs2.sl; have := hm7; omega
          have HLS := Lib.hid (list_atS hs2.set)
          rw [hn2] at HLS
          rw [hm7] at h7d ⊢
          clear hs2 hm7 hn2
          go_wp2_with fail
          refine HLS.out.mono ?_; rintro e w5 ⟨AL, rfl, hrl, hB5⟩
          have HRL := Lib.hid hrl
          have HS5 := Lib.hid (HS2.out.below hB5)
          clear hrl hB5 HLS HS2
          go_wp2_with fail
          go_loopw [24] (fun i wr => ∃ j : Nat, j ≤ n2 ∧ i = .int .i64 j ∧ Below w5.heap.size w5 wr) (fun i _ => n2 - (intOf i).toNat)
          case atStart => exact ⟨0, Nat.zero_le _, rfl, Below.refl _ _⟩
          case round =>
            obtain ⟨j, hj, rfl, hB6⟩ := hrel
            have HB6 := Lib.hid hB6
            clear hB6
            by_cases hjl : j < n2
            · obtain ⟨s, hs⟩ : ∃ s, L2[j]? = some s := ⟨_, List.getElem?_eq_getElem (by rw [HN2.out]; exact hjl)⟩
              obtain ⟨bl, ol, rfl, hbl, hcl⟩ := HRL.out.row (by omega)
              have HCL : Hid (∀ W, Below w5.heap.size w5 W → W.cell? ⟨bl, ol + j, none⟩ = some (.int .u32 s.at_)) := Lib.hid (fun W hW => by
                have := (hW.cell (p := ⟨bl, ol + j, none⟩) hbl).trans (hcl j hjl)
                rw [List.getElem?_map, hs] at this
                exact this)
              have hst := sure_state HSV.out hs
              have hsu := HSV.out.su s (List.mem_of_getElem? hs)
              have hst12 := HS5.out.set.sts s (List.mem_of_getElem? hs)
              obtain ⟨a, ha⟩ : ∃ a, s.at_ = a := ⟨_, rfl⟩
              rw [ha] at HCL hst hsu
              have HSTA := Lib.hid hst
              have HSU := Lib.hid hsu
              have HST12 := Lib.hid hst12
              have HCS : Hid (∀ W, Below w5.heap.size w5 W → 0 < m7 → ∃ g7, B7 = some ⟨g7, 0, none⟩ ∧ ∀ i b, S2[i]? = some b → W.cell? ⟨g7, i, none⟩ = some (.int .u32 b)) := Lib.hid (fun W hW h0 => by
                obtain ⟨hl, A', c', he, _, _, hrow⟩ := own_ints ((HS5.out.below hW).sv)
                injection he with he1 he2 he3
                subst he1
                obtain ⟨g7, hA, _, _, hcells⟩ := hrow (by rw [HM7.out]; exact h0)
                refine ⟨g7, hA, fun i b hb => ?_⟩
                have hi := (List.getElem?_eq_some_iff.1 hb).1
                rw [hcells i hi, hb]; rfl)
              have j0 : (0 : Int) ≤ (j : Int) := by omega
              have j1 : (j : Int) < (n2 : Int) := by omega
              obtain ⟨w6, hw6⟩ : ∃ w6 : World, w6 = wr := ⟨_, rfl⟩
              subst hw6
              clear hs hbl hcl hst hsu hst12 ha
              go_wp2_with fail
              go_loopw [25, 26] (fun q i wr => ∃ m : Nat, m ≤ m7 ∧ i = .int .i64 m ∧ q = .bool ((S2.take m).any (· == a)) ∧ Below w5.heap.size w5 wr) (fun _ i _ => m7 - (intOf i).toNat)
              case atStart => exact ⟨0, Nat.zero_le _, rfl, rfl, HB6.out⟩
              case round =>
                obtain ⟨m, hm, rfl, rfl, hB7⟩ := hrel
                have HB7 := Lib.hid hB7
                by_cases hml : m < m7
                · obtain ⟨v, hv⟩ : ∃ v, S2[m]? = some v := ⟨_, List.getElem?_eq_getElem (by rw [HM7.out]; exact hml)⟩
                  obtain ⟨g7, rfl, hc7⟩ := HCS.out wr hB7 (by omega)
                  have cs := hc7 m v hv
                  have cl := HCL.out wr hB7
                  have HAN := Lib.hid (any_next (a := a) hv)
                  have m0 : (0 : Int) ≤ (m : Int) := by omega
                  have m1 : (m : Int) < (m7 : Int) := by omega
                  obtain ⟨qq, hqq⟩ : ∃ q, (S2.take m).any (· == a) = q := ⟨_, rfl⟩
                  rw [hqq] at HAN ⊢
                  clear hB7 hv hc7 hqq
                  cases qq with
                  | true =>
                    go_wp2_with fail
                    refine wp_region_noPanic ?_
                    refine wp_region_held_drew (S := (fun w' => w'.cell? ⟨g7, m, none⟩ = some (.int .u32 v) ∧ w'.cell? ⟨bl, ol + j, none⟩ = some (.int .u32 a))) (by kernel_rfl) ?_ (fun hHeld => ?_)
                    · ((try dsimp only); refine ⟨?_, ?_⟩ <;> (first | assumption | (go_keep; done)))
                    refine wpAnyH_take (i := 0) (oi := ⟨some 207, _, _, _, _, _⟩) (v := ?_) rfl (by kernel_rfl) (by kernel_rfl) (by kernel_rfl) (fun _ _ _ h => False.elim h) (Or.inl ⟨by rfl, ?_⟩) (by assumption) ?_
                    rotate_left
                    · intro w hSw
                      (try dsimp only at hSw)
                      go_simp
                      all_goals with_reducible rfl
                    (try simp only [Act.put, List.setIfInBounds_toArray, List.set_cons_zero, List.set_cons_succ])
                    refine wpAnyH_take (i := 1) (oi := ⟨some 208, _, _, _, _, _⟩) (v := ?_) rfl (by kernel_rfl) (by kernel_rfl) (by kernel_rfl) (fun _ _ _ h => False.elim h) (Or.inl ⟨by rfl, ?_⟩) (by assumption) ?_
                    rotate_left
                    · intro w hSw
                      (try dsimp only at hSw)
                      go_simp
                      all_goals with_reducible rfl
                    (try simp only [Act.put, List.setIfInBounds_toArray, List.set_cons_zero, List.set_cons_succ])
                    refine wpAnyH_take (i := 2) (oi := ⟨some 209, _, _, _, _, _⟩) (v := undef) rfl (by kernel_rfl) (by kernel_rfl) (by kernel_rfl) (fun _ _ _ h => False.elim h) (Or.inr ⟨by rfl, rfl⟩) (by assumption) ?_
                    (try simp only [Act.put, List.setIfInBounds_toArray, List.set_cons_zero, List.set_cons_succ])
                    refine wpAnyH_take (i := 3) (oi := ⟨some 210, _, _, _, _, _⟩) (v := undef) rfl (by kernel_rfl) (by kernel_rfl) (by kernel_rfl) (fun _ _ _ h => False.elim h) (Or.inr ⟨by rfl, rfl⟩) (by assumption) ?_
                    (try simp only [Act.put, List.setIfInBounds_toArray, List.set_cons_zero, List.set_cons_succ])
                    refine wpAnyH_take (i := 4) (oi := ⟨some 211, _, _, _, _, _⟩) (v := undef) rfl (by kernel_rfl) (by kernel_rfl) (by kernel_rfl) (fun _ _ _ h => False.elim h) (Or.inr ⟨by rfl, rfl⟩) (by assumption) ?_
                    (try simp only [Act.put, List.setIfInBounds_toArray, List.set_cons_zero, List.set_cons_succ])
                    refine wpAnyH_take (i := 5) (oi := ⟨some 212, _, _, _, _, _⟩) (v := undef) rfl (by kernel_rfl) (by kernel_rfl) (by kernel_rfl) (fun _ _ _ h => False.elim h) (Or.inr ⟨by rfl, rfl⟩) (by assumption) ?_
                    (try simp only [Act.put, List.setIfInBounds_toArray, List.set_cons_zero, List.set_cons_succ])
                    refine wpAnyH_take (i := 6) (oi := ⟨some 213, _, _, _, _, _⟩) (v := undef) rfl (by kernel_rfl) (by kernel_rfl) (by kernel_rfl) (fun _ _ _ h => False.elim h) (Or.inr ⟨by rfl, rfl⟩) (by assumption) ?_
                    (try simp only [Act.put, List.setIfInBounds_toArray, List.set_cons_zero, List.set_cons_succ])
                    refine wpAnyH_take (i := 7) (oi := ⟨some 214, _, _, _, _, _⟩) (v := undef) rfl (by kernel_rfl) (by kernel_rfl) (by kernel_rfl) (fun _ _ _ h => False.elim h) (Or.inr ⟨by rfl, rfl⟩) (by assumption) ?_
                    (try simp only [Act.put, List.setIfInBounds_toArray, List.set_cons_zero, List.set_cons_succ])
                    refine wpAnyH_take (i := 8) (oi := ⟨some 215, _, _, _, _, _⟩) (v := undef) rfl (by kernel_rfl) (by kernel_rfl) (by kernel_rfl) (fun _ _ _ h => False.elim h) (Or.inr ⟨by rfl, rfl⟩) (by assumption) ?_
                    (try simp only [Act.put, List.setIfInBounds_toArray, List.set_cons_zero, List.set_cons_succ])
                    refine wpAnyH_take (i := 9) (oi := ⟨some 216, _, _, _, _, _⟩) (v := undef) rfl (by kernel_rfl) (by kernel_rfl) (by kernel_rfl) (fun _ _ _ h => False.elim h) (Or.inr ⟨by rfl, rfl⟩) (by assumption) ?_
                    (try simp only [Act.put, List.setIfInBounds_toArray, List.set_cons_zero, List.set_cons_succ])
                    refine wpAnyH_take (i := 10) (oi := ⟨some 217, _, _, _, _, _⟩) (v := undef) rfl (by kernel_rfl) (by kernel_rfl) (by kernel_rfl) (fun _ _ _ h => False.elim h) (Or.inr ⟨by rfl, rfl⟩) (by assumption) ?_
                    (try simp only [Act.put, List.setIfInBounds_toArray, List.set_cons_zero, List.set_cons_succ])
                    refine wpAnyH_take (i := 11) (oi := ⟨some 218, _, _, _, _, _⟩) (v := ?_) rfl (by kernel_rfl) (by kernel_rfl) (by kernel_rfl) (fun _ _ _ h => False.elim h) (Or.inl ⟨by rfl, ?_⟩) (by assumption) ?_
                    rotate_left
                    · intro w hSw
                      (try dsimp only at hSw)
                      go_simp
                      all_goals with_reducible rfl
                    (try simp only [Act.put, List.setIfInBounds_toArray, List.set_cons_zero, List.set_cons_succ])
                    refine wpAnyH_take (i := 12) (oi := ⟨some 25, _, _, _, _, _⟩) (v := ?_) rfl (by kernel_rfl) (by kernel_rfl) (by kernel_rfl) (fun _ _ _ h => False.elim h) (Or.inl ⟨by rfl, ?_⟩) (by assumption) ?_
                    rotate_left
                    · intro w hSw
                      (try dsimp only at hSw)
                      go_simp
                      all_goals with_reducible rfl
                    (try simp only [Act.put, List.setIfInBounds_toArray, List.set_cons_zero, List.set_cons_succ])
                    refine wpAnyH_done (by kernel_rfl) ?_ _
                    refine NoPanic.normal ?_
                    go_wp2_with fail
                    go_roundw
                    case rel => exact ⟨m + 1, by omega, by go_num, by rw [HAN.out]; rfl, HB7.out.drew⟩
                    case measure => simp [intOf]; omega
                  | false =>
                    go_wp2_with fail
                    refine wp_region_noPanic ?_
                    refine wp_region_held_drew (S := (fun w' => w'.cell? ⟨g7, m, none⟩ = some (.int .u32 v) ∧ w'.cell? ⟨bl, ol + j, none⟩ = some (.int .u32 a))) (by kernel_rfl) ?_ (fun hHeld => ?_)
                    · ((try dsimp only); refine ⟨?_, ?_⟩ <;> (first | assumption | (go_keep; done)))
                    refine wpAnyH_take (i := 0) (oi := ⟨some 207, _, _, _, _, _⟩) (v := ?_) rfl (by kernel_rfl) (by kernel_rfl) (by kernel_rfl) (fun _ _ _ h => False.elim h) (Or.inl ⟨by rfl, ?_⟩) (by assumption) ?_
                    rotate_left
                    · intro w hSw
                      (try dsimp only at hSw)
                      go_simp
                      all_goals with_reducible rfl
                    (try simp only [Act.put, List.setIfInBounds_toArray, List.set_cons_zero, List.set_cons_succ])
                    refine wpAnyH_take (i := 1) (oi := ⟨some 208, _, _, _, _, _⟩) (v := ?_) rfl (by kernel_rfl) (by kernel_rfl) (by kernel_rfl) (fun _ _ _ h => False.elim h) (Or.inl ⟨by rfl, ?_⟩) (by assumption) ?_
                    rotate_left
                    · intro w hSw
                      (try dsimp only at hSw)
                      go_simp
                      all_goals with_reducible rfl
                    (try simp only [Act.put, List.setIfInBounds_toArray, List.set_cons_zero, List.set_cons_succ])
                    refine wpAnyH_take (i := 2) (oi := ⟨some 209, _, _, _, _, _⟩) (v := ?_) rfl (by kernel_rfl) (by kernel_rfl) (by kernel_rfl) (fun _ _ _ h => False.elim h) (Or.inl ⟨by rfl, ?_⟩) (by assumption) ?_
                    rotate_left
                    · intro w hSw
                      (try dsimp only at hSw)
                      go_simp
                      all_goals with_reducible rfl
                    (try simp only [Act.put, List.setIfInBounds_toArray, List.set_cons_zero, List.set_cons_succ])
                    refine wpAnyH_take (i := 3) (oi := ⟨some 210, _, _, _, _, _⟩) (v := ?_) rfl (by kernel_rfl) (by kernel_rfl) (by kernel_rfl) (fun _ _ _ h => False.elim h) (Or.inl ⟨by rfl, ?_⟩) (by assumption) ?_
                    rotate_left
                    · intro w hSw
                      (try dsimp only at hSw)
                      go_simp
                      all_goals with_reducible rfl
                    (try simp only [Act.put, List.setIfInBounds_toArray, List.set_cons_zero, List.set_cons_succ])
                    refine wpAnyH_take (i := 4) (oi := ⟨some 211, _, _, _, _, _⟩) (v := ?_) rfl (by kernel_rfl) (by kernel_rfl) (by kernel_rfl) (fun _ _ _ h => False.elim h) (Or.inl ⟨by rfl, ?_⟩) (by assumption) ?_
                    rotate_left
                    · intro w hSw
                      (try dsimp only at hSw)
                      go_simp
                      all_goals with_reducible rfl
                    (try simp only [Act.put, List.setIfInBounds_toArray, List.set_cons_zero, List.set_cons_succ])
                    refine wpAnyH_take (i := 5) (oi := ⟨some 212, _, _, _, _, _⟩) (v := ?_) rfl (by kernel_rfl) (by kernel_rfl) (by kernel_rfl) (fun _ _ _ h => False.elim h) (Or.inl ⟨by rfl, ?_⟩) (by assumption) ?_
                    rotate_left
                    · intro w hSw
                      (try dsimp only at hSw)
                      go_simp
                      all_goals with_reducible rfl
                    (try simp only [Act.put, List.setIfInBounds_toArray, List.set_cons_zero, List.set_cons_succ])
                    refine wpAnyH_take (i := 6) (oi := ⟨some 213, _, _, _, _, _⟩) (v := ?_) rfl (by kernel_rfl) (by kernel_rfl) (by kernel_rfl) (fun _ _ _ h => False.elim h) (Or.inl ⟨by rfl, ?_⟩) (by assumption) ?_
                    rotate_left
                    · intro w hSw
                      (try dsimp only at hSw)
                      go_simp
                      all_goals with_reducible rfl
                    (try simp only [Act.put, List.setIfInBounds_toArray, List.set_cons_zero, List.set_cons_succ])
                    refine wpAnyH_take (i := 7) (oi := ⟨some 214, _, _, _, _, _⟩) (v := ?_) rfl (by kernel_rfl) (by kernel_rfl) (by kernel_rfl) (fun _ _ _ h => False.elim h) (Or.inl ⟨by rfl, ?_⟩) (by assumption) ?_
                    rotate_left
                    · intro w hSw
                      (try dsimp only at hSw)
                      go_simp
                      all_goals with_reducible rfl
                    (try simp only [Act.put, List.setIfInBounds_toArray, List.set_cons_zero, List.set_cons_succ])
                    refine wpAnyH_take (i := 8) (oi := ⟨some 215, _, _, _, _, _⟩) (v := ?_) rfl (by kernel_rfl) (by kernel_rfl) (by kernel_rfl) (fun _ _ _ h => False.elim h) (Or.inl ⟨by rfl, ?_⟩) (by assumption) ?_
                    rotate_left
                    · intro w hSw
                      (try dsimp only at hSw)
                      go_simp
                      all_goals with_reducible rfl
                    (try simp only [Act.put, List.setIfInBounds_toArray, List.set_cons_zero, List.set_cons_succ])
                    refine wpAnyH_take (i := 9) (oi := ⟨some 216, _, _, _, _, _⟩) (v := ?_) rfl (by kernel_rfl) (by kernel_rfl) (by kernel_rfl) (fun _ _ _ h => False.elim h) (Or.inl ⟨by rfl, ?_⟩) (by assumption) ?_
                    rotate_left
                    · intro w hSw
                      (try dsimp only at hSw)
                      go_simp
                      all_goals with_reducible rfl
                    (try simp only [Act.put, List.setIfInBounds_toArray, List.set_cons_zero, List.set_cons_succ])
                    refine wpAnyH_take (i := 10) (oi := ⟨some 217, _, _, _, _, _⟩) (v := ?_) rfl (by kernel_rfl) (by kernel_rfl) (by kernel_rfl) (fun _ _ _ h => False.elim h) (Or.inl ⟨by rfl, ?_⟩) (by assumption) ?_
                    rotate_left
                    · intro w hSw
                      (try dsimp only at hSw)
                      go_simp
                      all_goals with_reducible rfl
                    (try simp only [Act.put, List.setIfInBounds_toArray, List.set_cons_zero, List.set_cons_succ])
                    refine wpAnyH_take (i := 11) (oi := ⟨some 218, _, _, _, _, _⟩) (v := ?_) rfl (by kernel_rfl) (by kernel_rfl) (by kernel_rfl) (fun _ _ _ h => False.elim h) (Or.inl ⟨by rfl, ?_⟩) (by assumption) ?_
                    rotate_left
                    · intro w hSw
                      (try dsimp only at hSw)
                      go_simp
                      all_goals with_reducible rfl
                    (try simp only [Act.put, List.setIfInBounds_toArray, List.set_cons_zero, List.set_cons_succ])
                    refine wpAnyH_take (i := 12) (oi := ⟨some 25, _, _, _, _, _⟩) (v := ?_) rfl (by kernel_rfl) (by kernel_rfl) (by kernel_rfl) (fun _ _ _ h => False.elim h) (Or.inl ⟨by rfl, ?_⟩) (by assumption) ?_
                    rotate_left
                    · intro w hSw
                      (try dsimp only at hSw)
                      go_simp
                      all_goals with_reducible rfl
                    (try simp only [Act.put, List.setIfInBounds_toArray, List.set_cons_zero, List.set_cons_succ])
                    refine wpAnyH_done (by kernel_rfl) ?_ _
                    refine NoPanic.normal ?_
                    go_wp2_with fail
                    go_roundw
                    case rel => exact ⟨m + 1, by omega, by go_num, by rw [HAN.out, Bool.false_or], HB7.out.drew⟩
                    case measure => simp [intOf]; omega
                · obtain rfl : m = m7 := by omega
                  have hall : (S2.take m).any (· == a) = decide (a ∈ S2) := by rw [List.take_of_length_le (by rw [HM7.out]; omega), any_mem]
                  rw [hall]
                  have cl := HCL.out wr hB7
                  clear hB7 hall
                  have HSTT := Lib.hid (HS5.out.below HB7.out)
                  rcases HST12.out with h1 | h2
                  · have hq : decide (a ∈ S2) = false := decide_eq_false (fun hm => by have := HSU.out.2 hm; omega)
                    have hst1 := HSTA.out.trans h1
                    have HSC := Lib.hid (state_at HSTT.out.set a 1 hst1)
                    rw [hq]
                    clear hq hst1 h1
                    go_wp2_with fail
                    refine HSC.out.mono ?_; rintro e w8 ⟨rfl, -, hB8⟩
                    have HB8 := Lib.hid (HB7.out.trans (hB8.mono HB7.out.size))
                    clear hB8
                    go_wp2_with fail
                    go_roundw
                    case rel => exact ⟨j + 1, by omega, by go_num, HB8.out⟩
                    case measure => simp [intOf]; omega
                  · have hq : decide (a ∈ S2) = true := decide_eq_true (HSU.out.1 h2)
                    have hst1 := HSTA.out.trans h2
                    have HSC := Lib.hid (state_at HSTT.out.set a 2 hst1)
                    rw [hq]
                    clear hq hst1 h2
                    go_wp2_with fail
                    refine HSC.out.mono ?_; rintro e w8 ⟨rfl, -, hB8⟩
                    have HB8 := Lib.hid (HB7.out.trans (hB8.mono HB7.out.size))
                    clear hB8
                    go_wp2_with fail
                    go_roundw
                    case rel => exact ⟨j + 1, by omega, by go_num, HB8.out⟩
                    case measure => simp [intOf]; omega
            · obtain rfl : j = n2 := by omega
              go_wp2_with fail
              go_roundw
              case rel => exact ⟨k + 1, g2, L2, cr2, S2, K2, by omega, by go_num, by rw [← HM7.out]; exact HS5.out.below HB6.out⟩
              case measure => simp [intOf]; omega
      · obtain rfl : k = n1 := by omega
        go_wp2_with fail
        go_ret
        exact ⟨rfl, HST.out.bel⟩
set_option maxRecDepth 100000 in
theorem spotsSure_walk {H : Type} {enc : TypeId × Value → H} {base : Nat} {d1 : DataW H} {p1 : List MemPlace} (a0 : Int) (v1 : Value) (w : World)
    (w0 : (Lit.int .u32 a0).wf = true) (o1 : Value.okWide Try.prog w .any base 24 v1) (k1 : DataW.Trod enc Try.prog w 0 (fun _ => true) true 24 v1 d1 p1) (z1 : (d1.weights Try.prog 24).all (· ≤ reachBytes) = true) :
    Calls Try.prog 3 #[.int .u32 a0, v1] w fun e w' => e = .returned (.bool true) ∧ Below w.heap.size w w' := by
  obtain ⟨f0, hf0⟩ := k1
  obtain ⟨A, n, c, xs, ep, hps, hn, h80⟩ := open_sacts hf0 z1
  obtain ⟨av, nv, cv, rfl⟩ : ∃ av nv cv, v1 = .slice av nv cv := okWide_slice Try.underlying24 o1
  simp only [Value.cells] at ep
  have ev : Value.slice av nv cv = .slice A n c := by simpa using ep
  rw [ev]
  exact sure_at a0 A n c xs w (wf_bounds_u32 w0) hps hn h80
end Go.Proofs.Ytnnbjcnfekgngaa
