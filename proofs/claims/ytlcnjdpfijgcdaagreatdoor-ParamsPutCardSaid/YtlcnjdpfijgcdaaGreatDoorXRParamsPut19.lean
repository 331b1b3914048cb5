/- A struct that is built, in a region that draws its order; The walks over the document's twin, Find, With, Below of pieces. -/
import Derived.Test.YtlcnjdpfijgcdaaGreatDoorXRParamsPut5
import Derived.Test.YtlcnjdpfijgcdaaGreatDoorXRParamsPut16
import Derived.Test.YtlcnjdpfijgcdaaGreatDoorXRParamsPut18
namespace Go.Proofs.YtlcnjdpfijgcdaaGreatDoor
open Go.RowKit
theorem yieldsIf_buildG {P : Program} {ops : Array Oper} {a : Act} {S : World → Prop} {op : Oper} (hw : Region.wanted op (yielded ops a.tmps) = true) (ty : TypeId) (parts : Array (Nat × Operand)) (ho : op.op = .build ty parts) (v : Value)
    (hr : ∀ W, (Instr.build ty (parts.map fun (i, x) => (i, a.eval x))).run P W = .ok v W) : YieldsIf P ops S op v a :=
  .inl ⟨hw, fun w _ => by
    unfold execOp
    simp only [ho, Sem.run_bind, Sem.run_pure, Result.andThen_ok, hr]⟩
end Go.Proofs.YtlcnjdpfijgcdaaGreatDoor

namespace Go.Proofs.YtlcnjdpfijgcdaaGreatDoor
open Go.RowKit
set_option linter.unusedSimpArgs false
set_option linter.unusedVariables false

theorem HdsIn.keepRow {base base' n : Nat} {w w' : World} {hs : List Hd} {v : Value} {xs : List Value} (h : HdsIn base w hs) (ho : w.ownsRow base' 53 2 v n xs) (hk : Keeps (fun i => v.ownBlock = some i) w w') : HdsIn base w' hs :=
  h.keep hk (fun k cur _ hc hv => by
    obtain ⟨_, _, cur2, hc2⟩ := own_type ho hv
    exact absurd (ty_one hc hc2) (by decide))
theorem RowG.keepRow {base base' n m q : Nat} {w w' : World} {u v : Value} {ys xs : List Value} (h : RowG 5 q base w u m ys) (ho : w.ownsRow base' 53 2 v n xs) (hk : Keeps (fun i => v.ownBlock = some i) w w') : RowG 5 q base w' u m ys :=
  h.keep hk (fun k hk2 hv => by
    obtain ⟨_, _, cur, hc⟩ := h.ty hk2
    obtain ⟨_, _, cur2, hc2⟩ := own_type ho hv
    exact absurd (ty_one hc hc2) (by decide))

set_option maxRecDepth 100000 in
set_option maxHeartbeats 1000000 in
theorem rtwin_any (t : Int) (A : Option Addr) (n c : Nat) (body : List Int) (w : World) (r : Rd w .u8 A n body) (l : n ≤ c) (hz : A = none → c = 0) :
    Calls Tryz.prog 99 #[.agg #[.int .u16 t, .slice A n c]] w fun e w' => ∃ B cb, e = .returned (.agg #[.int .u16 t, .slice B n cb]) ∧ RowG 5 1 w.heap.size w' (.slice B n cb) n (body.map (Value.int .u8)) ∧ Below w.heap.size w w' := by
  have hk1 : Blk ((w.alloc (.cells #[.int .u16 t, .slice A n c] 53)).alloc (.cells #[.int .u16 0, .slice none 0 0] 53)) w.heap.size 53 [.int .u16 t, .slice A n c] := (Blk.new w 53 [.int .u16 t, .slice A n c]).alloc _
  have hk2 : Blk ((w.alloc (.cells #[.int .u16 t, .slice A n c] 53)).alloc (.cells #[.int .u16 0, .slice none 0 0] 53)) (w.heap.size + 1) 53 [.int .u16 0, .slice none 0 0] := by
    have := Blk.new (w.alloc (.cells #[.int .u16 t, .slice A n c] 53)) 53 [.int .u16 0, .slice none 0 0]
    rwa [World.size_alloc] at this
  have hB : Below w.heap.size w ((w.alloc (.cells #[.int .u16 t, .slice A n c] 53)).alloc (.cells #[.int .u16 0, .slice none 0 0] 53)) := ((Below.refl _ _).alloc (Nat.le_refl _) _).alloc (by simp) _
  obtain ⟨w2, hw2⟩ : ∃ w2, (w.alloc (.cells #[.int .u16 t, .slice A n c] 53)).alloc (.cells #[.int .u16 0, .slice none 0 0] 53) = w2 := ⟨_, rfl⟩
  rw [hw2] at hk1 hk2 hB
  have HW2 := Lib.hid hw2
  have hrd : Rd w2.drew .u8 A n body := (r.below hB).below (drew_belowB w2)
  have hbig := hrd.big
  have hs5 : (Tryz.prog.info? 53).map (·.size) = some 2 := size_param
  have HRD := Lib.hid hrd
  have HK1 := Lib.hid hk1
  have HK2 := Lib.hid hk2
  have HB := Lib.hid hB
  have HS5 := Lib.hid hs5
  have HZ := Lib.hid hz
  have c0 : w2.cell? ⟨w.heap.size, 0, none⟩ = some (.int .u16 t) := hk1.cell 0
  have c1 : w2.cell? ⟨w.heap.size, 1, none⟩ = some (.slice A n c) := hk1.cell 1
  clear hw2 hk1 hk2 hB hs5 r hrd hz
  go_enter Tryz.func99, Tryz.ntmps99
  go_wp2_with fail
  rw [HW2.out]
  clear HW2
  obtain ⟨P, hP⟩ : ∃ P, w.heap.size = P := ⟨_, rfl⟩
  have hle0 : P ≤ w2.heap.size := by rw [← hP]; exact HB.out.size
  rw [hP] at HK1 HK2 HB c0 c1 ⊢
  have HP := Lib.hid hP
  clear hP
  have hP1 : P < w2.heap.size := HK1.out.lt
  refine wp_region_noPanic ?_
  refine wp_region_held_drew (S := (fun w' => w'.cell? ⟨P, 0, none⟩ = some (.int .u16 t) ∧ w'.cell? ⟨P, 1, none⟩ = some (.slice A n c))) (by kernel_rfl) ?_ (fun hHeld => ?_)
  · ((try dsimp only); refine ⟨?_, ?_⟩ <;> (first | assumption | (go_keep; done)))
  refine wpAnyH_take (i := 0) (oi := ⟨some 3, _, _, _, _, _⟩) (v := ?_) rfl (by kernel_rfl) (by kernel_rfl) (by kernel_rfl) (fun _ _ _ h => False.elim h) (Or.inl ⟨by rfl, ?_⟩) (by assumption) ?_
  rotate_left
  · intro w hSw
    (try dsimp only at hSw)
    go_simp
    all_goals with_reducible rfl
  (try simp only [Act.put, List.setIfInBounds_toArray, List.set_cons_zero, List.set_cons_succ])
  refine wpAnyH_take (i := 1) (oi := ⟨some 4, _, _, _, _, _⟩) (v := ?_) rfl (by kernel_rfl) (by kernel_rfl) (by kernel_rfl) (fun _ _ _ h => False.elim h) (Or.inl ⟨by rfl, ?_⟩) (by assumption) ?_
  rotate_left
  · intro w hSw
    (try dsimp only at hSw)
    go_simp
    all_goals with_reducible rfl
  (try simp only [Act.put, List.setIfInBounds_toArray, List.set_cons_zero, List.set_cons_succ])
  refine wpAnyH_take (i := 2) (oi := ⟨some 5, _, _, _, _, _⟩) (v := ?_) rfl (by kernel_rfl) (by kernel_rfl) (by kernel_rfl) (fun _ _ _ h => False.elim h) (Or.inl ⟨by rfl, ?_⟩) (by assumption) ?_
  rotate_left
  · intro w hSw
    (try dsimp only at hSw)
    go_simp
    all_goals with_reducible rfl
  (try simp only [Act.put, List.setIfInBounds_toArray, List.set_cons_zero, List.set_cons_succ])
  refine wpAnyH_take (i := 3) (oi := ⟨some 6, _, _, _, _, _⟩) (v := ?_) rfl (by kernel_rfl) (by kernel_rfl) (by kernel_rfl) (fun _ _ _ h => False.elim h) (Or.inl ⟨by rfl, ?_⟩) (by assumption) ?_
  rotate_left
  · intro w hSw
    (try dsimp only at hSw)
    go_simp
    all_goals with_reducible rfl
  (try simp only [Act.put, List.setIfInBounds_toArray, List.set_cons_zero, List.set_cons_succ])
  refine wpAnyH_ready (rs := [4]) (by kernel_rfl) (by simp) ?_
  refine AllReadyH.cons (o := ⟨some 7, _, _, _, _, _⟩) rfl (fun K hK => ?_) AllReadyH.nil
  (refine step_append_bytes w2.heap.size rfl _ _ rfl (.slice none 0 0) 0 [] rfl A n c body (by simp [Act.eval, Act.put]) HRD.out HZ.out (own_nil _ _ _ _) (Nat.le_refl _) (by omega) ?_; intro v1 w3 HO3 hg3 hat3; obtain ⟨B, cb, rfl, -, -, -⟩ := own_slice HO3.out; have hB3 : Below w2.heap.size w2 w3 := (drew_belowB w2).trans (grown_nil hg3); have k0 : w3.cell? ⟨P, 0, none⟩ = some (.int .u16 t) := (hB3.cell (p := ⟨P, 0, none⟩) hP1).trans c0; have k1 : w3.cell? ⟨P, 1, none⟩ = some (.slice A n c) := (hB3.cell (p := ⟨P, 1, none⟩) hP1).trans c1; have HK3 := Lib.hid (HK2.out.below hB3 HK2.out.lt); have HB3 := Lib.hid hB3; have hP3 : P < w3.heap.size := Nat.lt_of_lt_of_le hP1 hB3.size; have z0 : (w3.setCells (P + 1) 0 [.int .u16 t, .slice B (0 + n) cb]).cell? ⟨P, 0, none⟩ = some (.int .u16 t) := ((Keeps.setCells (g := P + 1) [.int .u16 t, .slice B (0 + n) cb] 0 w3).cell (p := ⟨P, 0, none⟩) hP3 (by simp)).trans k0; have z1 : (w3.setCells (P + 1) 0 [.int .u16 t, .slice B (0 + n) cb]).cell? ⟨P, 1, none⟩ = some (.slice A n c) := ((Keeps.setCells (g := P + 1) [.int .u16 t, .slice B (0 + n) cb] 0 w3).cell (p := ⟨P, 1, none⟩) hP3 (by simp)).trans k1; clear hg3 hat3 hB3)
  refine hK.out _ _ ?_ (fun hHeld => ?_)
  · ((try dsimp only); refine ⟨?_, ?_⟩ <;> (first | assumption | (go_keep; done)))
  clear hK K
  (try simp only [Act.put, List.setIfInBounds_toArray, List.set_cons_zero, List.set_cons_succ])
  refine wpAnyH_take (i := 5) (oi := ⟨some 8, _, _, _, _, _⟩) (v := .agg #[.int .u16 t, .slice B (0 + n) cb]) rfl (by kernel_rfl) (by kernel_rfl) (by kernel_rfl) (fun _ _ _ h => False.elim h) ?_ (by assumption) ?_
  · exact yieldsIf_buildG (by rfl) 53 _ rfl _ (fun W => by kernel_rfl)
  (try simp only [Act.put, List.setIfInBounds_toArray, List.set_cons_zero, List.set_cons_succ])
  refine wpAnyH_ready (rs := [6]) (by kernel_rfl) (by simp) ?_
  refine AllReadyH.cons (o := ⟨none, _, _, _, _, _⟩) rfl (fun K hK => ?_) AllReadyH.nil
  (refine step_store_row rfl 53 _ _ rfl (P + 1) 0 #[.int .u16 t, .slice B (0 + n) cb] rfl rfl (HK3.out.there 0 2 (Nat.le_refl 2)) HS5.out (by kernel_rfl) ?_)
  refine hK.out _ _ ?_ (fun hHeld => ?_)
  · ((try dsimp only); refine ⟨?_, ?_⟩ <;> (first | assumption | (go_keep; done)))
  clear hK K
  (try simp only [Act.put, List.setIfInBounds_toArray, List.set_cons_zero, List.set_cons_succ])
  refine wpAnyH_done (by kernel_rfl) ?_ _
  refine NoPanic.normal ?_
  go_wp2_with fail
  have ho3 := HO3.out
  rw [List.nil_append] at ho3
  rw [Nat.zero_add] at ho3
  have hset : Keeps (· = P + 1) w3 (w3.setCells (P + 1) 0 [.int .u16 t, .slice B n cb]) := Keeps.setCells _ _ _
  have hkf : Blk (w3.setCells (P + 1) 0 [.int .u16 t, .slice B n cb]) (P + 1) 53 [.int .u16 t, .slice B n cb] := by
    have := Blk.setCells [.int .u16 t, .slice B n cb] 0 w3 _ HK3.out (by simp)
    rwa [splice_whole [.int .u16 0, .slice none 0 0] [.int .u16 t, .slice B n cb] rfl] at this
  have hrow : RowG 5 1 P w3 (.slice B n cb) n (body.map (Value.int .u8)) := (RowG.of_own ho3).lower hle0
  have hrow2 := hrow.keep hset (fun k hk e => by
    subst e
    obtain ⟨_, _, cur, h2⟩ := hrow.ty hk
    exact absurd (ty_one h2 HK3.out) (by decide))
  have hBm : Below P w w3 := HB.out.trans (HB3.out.mono hle0)
  refine bodyPost_ret (results_cell_row rfl _ _ (P + 1) _ _ _ _ rfl hkf Tryz.underlying53 rfl (by kernel_rfl)) rfl ?_
  rw [HP.out]
  exact ⟨B, cb, rfl, hrow2, below_keeps hBm hset (by rw [HP.out]; exact Nat.le_refl _) (fun i hi => by omega)⟩

def RFindRes (w : World) (ps : List Piece) (t : Int) (e : Ending) (w' : World) : Prop :=
  (paFind ps t = none ∧ e = .returned (.tuple #[.slice none 0 0, .bool false]) ∧ Below w.heap.size w w') ∨
  ∃ body B c, paFind ps t = some body ∧ e = .returned (.tuple #[.slice B body.length c, .bool true]) ∧ RowG 5 1 w.heap.size w' (.slice B body.length c) body.length (body.map (Value.int .u8)) ∧ Below w.heap.size w w'
set_option maxRecDepth 100000 in
set_option maxHeartbeats 2000000 in
theorem rfind_any (A : Option Addr) (n c : Nat) (t : Int) (ps : List Piece) (w : World) (hps : Ps w A n ps) (hn : n < 1099511627776) :
    Calls Tryz.prog 22 #[.slice A n c, .int .u16 t] w (RFindRes w ps t) := by
  have HPS := Lib.hid hps
  have HL := Lib.hid hps.len
  clear hps
  go_enter Tryz.func22, Tryz.ntmps22
  go_wp2_with fail
  go_loop [6] (fun i => ∃ k : Nat, k ≤ n ∧ i = .int .i64 k ∧ ∀ j u, j < k → (ps.map (·.1))[j]? = some u → decide (u = t) = false) (fun i => n - (intOf i).toNat)
  case atStart => exact ⟨0, Nat.zero_le _, rfl, fun j u hj => absurd hj (by omega)⟩
  case round =>
    obtain ⟨k, hk, rfl, hpre⟩ := hrel
    have k0 : (0 : Int) ≤ (k : Int) := by omega
    by_cases hlt : k < n
    · obtain ⟨b, off, rfl, hb, hc⟩ := HPS.out.row (by omega)
      obtain ⟨t1, body, B1, m1, d1, h1, h2, h3, h4, h5, h6, h7⟩ := hc k hlt
      obtain rfl : body.length = m1 := h5.len
      have k1 : (k : Int) < (n : Int) := by omega
      have kadd : IntKind.i64.wrap ((k : Int) + 1) = (k : Int) + 1 := IntWalk.i64_in _ (by omega)
      by_cases ht : t1 = t
      · subst ht
        have hf := find_of hpre h1 rfl
        have hbig := h5.big
        have HF := Lib.hid hf
        have HRD := Lib.hid h5
        have HZ := Lib.hid h7
        clear hpre hc h1 h5 h7 hf kadd
        go_wp2_with (at_builtin; refine append_bytes w.heap.size rfl _ _ rfl (.slice none 0 0) 0 [] rfl B1 body.length d1 body rfl HRD.out HZ.out (own_nil _ _ _ _) (Nat.le_refl _) (by omega) ?_; intro v1 w3 HO3 hg3 hat3; obtain ⟨B, cb, rfl, -, -, -⟩ := own_slice HO3.out; have HB3 := Lib.hid (grown_nil hg3); clear hg3 hat3)
        have ho3 := HO3.out
        rw [List.nil_append] at ho3
        rw [Nat.zero_add] at ho3
        have HROW := Lib.hid (RowG.of_own ho3)
        clear ho3
        go_ret2
        exact .inr ⟨body, B, cb, HF.out, rfl, HROW.out, HB3.out⟩
      · have htb : (t1 == t) = false := beq_eq_false_iff_ne.2 ht
        have HPRE := Lib.hid hpre
        have H1 := Lib.hid h1
        have HT := Lib.hid ht
        clear hpre hc h1 h5 h7 ht
        go_wp2_with fail
        go_round
        case rel =>
          refine ⟨k + 1, by omega, by go_num, fun j u hj hu => ?_⟩
          rcases Nat.lt_or_ge j k with h | h
          · exact HPRE.out j u h hu
          · obtain rfl : j = k := by omega
            rw [List.getElem?_map, H1.out] at hu
            simp at hu
            subst hu
            simpa using HT.out
        case measure => simp [intOf]; omega
    · obtain rfl : k = n := by omega
      have hf : paFind ps t = none := paFind_none.2 (fun p hp => by
        obtain ⟨j, hj⟩ := List.mem_iff_getElem?.1 hp
        have := hpre j p.1 (by have := (List.getElem?_eq_some_iff.1 hj).1; rw [HL.out] at this; exact this) (by rw [List.getElem?_map, hj]; rfl)
        simpa using this)
      have HF := Lib.hid hf
      clear hpre hf
      go_wp2_with fail
      go_ret2
      exact .inl ⟨HF.out, rfl, Below.refl _ _⟩

/-- Pieces that were appended one by one. -/
structure OutsAt (base : Nat) (w0 w : World) (v : Value) (hs : List Hd) (ps : List Piece) : Prop where
  row : w.ownsRow base 53 2 v hs.length (hcells hs)
  map : hs.map (·.p) = ps
  hds : HdsIn base w hs
  lt : ∀ h ∈ hs, ∀ g, h.B = some ⟨g, 0, none⟩ → g < w.heap.size
  below : Below base w0 w
theorem OutsAt.belowB {base : Nat} {w0 w w' : World} {v : Value} {hs : List Hd} {ps : List Piece} (h : OutsAt base w0 w v hs ps) (hb : base ≤ w.heap.size) (hB : Below w.heap.size w w') : OutsAt base w0 w' v hs ps :=
  ⟨(Keeps.of_below (M := fun _ => False) hB).own h.row (fun _ _ h => h), h.map, h.hds.below hB, fun x hx g hg => Nat.lt_of_lt_of_le (h.lt x hx g hg) hB.size, h.below.trans (hB.mono hb)⟩
theorem OutsAt.snoc {base m : Nat} {w0 w w1 : World} {v v1 : Value} {hs : List Hd} {ps : List Piece} {x : Hd} (h : OutsAt base w0 w v hs ps) (hm : ∀ y ∈ hs, ∀ g, y.B = some ⟨g, 0, none⟩ → g < m) (hbm : base ≤ m) (hbw : base ≤ w0.heap.size)
    (hx : RowG 5 1 m w (.slice x.B x.p.2.length x.c) x.p.2.length (x.p.2.map (Value.int .u8)))
    (ho : w1.ownsRow base 53 2 v1 (hs.length + 1) (hcells hs ++ hcell x)) (hk : Keeps (fun i => v.ownBlock = some i) w w1) : OutsAt base w0 w1 v1 (hs ++ [x]) (ps ++ [x.p]) := by
  have hsz := hk.size
  refine ⟨by rw [List.length_append, hcells_append]; simpa [hcells] using ho, by rw [List.map_append, h.map]; rfl, ?_, fun y hy g hg => ?_, below_keeps h.below hk hbw (fun i hi => (own_base h.row i hi).1)⟩
  · exact HdsIn.mid (l := hs) (r := []) (by rw [List.append_nil]; exact h.hds.keepRow h.row hk) ((hx.lower hbm).keepRow h.row hk) (fun y hy g hg hy2 => by
      rw [List.append_nil] at hy
      have h1 := hm y hy g hy2
      have h2 := (hx.ty (k := g) (by rw [hg]; rfl)).1
      omega)
  · rcases List.mem_append.1 hy with hy | hy
    · exact Nat.lt_of_lt_of_le (h.lt y hy g hg) hsz
    · rw [List.mem_singleton] at hy
      subst hy
      have h2 := (hx.ty (k := g) (by rw [hg]; rfl)).2.1
      omega
theorem outsAt_nil (w : World) (base : Nat) (w0 : World) (h : Below base w0 w) : OutsAt base w0 w (.slice none 0 0) [] [] :=
  ⟨own_nil _ _ _ _, rfl, HdsIn.nil, fun h hh => by simp at hh, h⟩
theorem OutsAt.len {base : Nat} {w0 w : World} {v : Value} {hs : List Hd} {ps : List Piece} (h : OutsAt base w0 w v hs ps) : hs.length = ps.length := by rw [← h.map, List.length_map]
theorem OutsAt.psOwn {base : Nat} {w0 w : World} {v : Value} {hs : List Hd} {ps : List Piece} (h : OutsAt base w0 w v hs ps) : ∃ A c, v = .slice A ps.length c ∧ PsOwn base w v ps (hcells hs) := by
  obtain ⟨A, c, hv, -, -, -⟩ := own_slice h.row
  have := h.hds.psOwn (RowG.of_own h.row)
  rw [h.map] at this
  exact ⟨A, c, by rw [hv, h.len], this⟩

set_option maxRecDepth 100000 in
set_option maxHeartbeats 2000000 in
theorem rbelow_any (A : Option Addr) (n c : Nat) (t : Int) (ps : List Piece) (w : World) (hps : Ps w A n ps) (hn : n < 1099511627776) :
    Calls Tryz.prog 26 #[.slice A n c, .int .u16 t] w fun e w' => ∃ A' c' cells, e = .returned (.slice A' (paBelow ps t).length c') ∧ PsOwn w.heap.size w' (.slice A' (paBelow ps t).length c') (paBelow ps t) cells ∧ Below w.heap.size w w' := by
  have HPS := Lib.hid hps
  have HL := Lib.hid hps.len
  clear hps
  go_enter Tryz.func26, Tryz.ntmps26
  go_wp2_with fail
  go_loopw [5, 6] (fun v i wr => ∃ (k : Nat) (hs : List Hd), k ≤ n ∧ i = .int .i64 k ∧ OutsAt w.heap.size w wr v hs (paBelow (ps.take k) t)) (fun _ i _ => n - (intOf i).toNat)
  case atStart => exact ⟨0, [], Nat.zero_le _, rfl, outsAt_nil _ _ _ (Below.refl _ _)⟩
  case round =>
    obtain ⟨k, hs, hk, rfl, ho⟩ := hrel
    obtain ⟨AA, cc, rfl, -, -, -⟩ := own_slice ho.row
    have hB := ho.below
    have HO := Lib.hid ho
    have k0 : (0 : Int) ≤ (k : Int) := by omega
    have kadd : IntKind.i64.wrap ((k : Int) + 1) = (k : Int) + 1 := IntWalk.i64_in _ (by omega)
    clear ho
    by_cases hlt : k < n
    · obtain ⟨b, off, rfl, hb, hc⟩ := (HPS.out.below hB).row (by omega)
      obtain ⟨u, body, B1, m1, d1, h1, h2, h3, h4, h5, h6, h7⟩ := hc k hlt
      obtain rfl : body.length = m1 := h5.len
      have k1 : (k : Int) < (n : Int) := by omega
      have htk : ps.take (k + 1) = ps.take k ++ [(u, body)] := by
        have := (List.getElem?_eq_some_iff.1 h1)
        rw [List.take_succ_eq_append_getElem this.1, this.2]
      have HTK := Lib.hid htk
      have htw := rtwin_any u B1 body.length d1 body wr h5 h6 h7
      have HTW := Lib.hid htw
      have hsz : w.heap.size ≤ wr.heap.size := hB.size
      by_cases hut : u < t
      · have hlen : hs.length ≤ n := by
          have h1 := HO.out.len
          have h2 : (paBelow (ps.take k) t).length ≤ k := Nat.le_trans (below_le _ _) (List.length_take_le _ _)
          omega
        clear hc h1 h5 h7 htk htw hB
        go_wp2_with fail
        refine HTW.out.mono ?_; rintro e w2 ⟨B, cb, rfl, hrow, hB2⟩
        have HO2 := Lib.hid (HO.out.belowB hsz hB2)
        have HROW := Lib.hid hrow
        have HLT := Lib.hid HO.out.lt
        have hbz2 : w.heap.size ≤ w2.heap.size := Nat.le_trans hsz hB2.size
        clear hrow hB2
        go_wp2_with (at_builtin; refine append_one (W := w2) w.heap.size rfl _ _ 25 53 (.agg #[.int .u16 0, .slice none 0 0]) 2 32 rfl Tryz.underlying25 info_paramH rfl (by omega) (by omega) (.slice AA hs.length cc) hs.length (hcells hs) [.int .u16 u, .slice B body.length cb] rfl rfl rfl (by simp [Value.oneCell']) HO2.out.row hbz2 (by omega) ?_; intro v1 w3 ho3 hk3 hb3; have HO3 := Lib.hid ho3; have HK3 := Lib.hid hk3; clear ho3 hk3 hb3)
        go_roundw
        case rel =>
          have := HO2.out.snoc (m := wr.heap.size) (x := ⟨(u, body), B, cb⟩) HLT.out hsz (Nat.le_refl _) HROW.out HO3.out HK3.out
          refine ⟨k + 1, hs ++ [⟨(u, body), B, cb⟩], by omega, by go_num, ?_⟩
          rw [HTK.out, show paBelow (ps.take k ++ [(u, body)]) t = paBelow (ps.take k) t ++ [(u, body)] by rw [paBelow, List.filter_append, List.filter_cons_of_pos (by simpa using hut), List.filter_nil]; rfl]
          exact this
        case measure => simp [intOf]; omega
      · clear hc h1 h5 h7 htk htw hB HTW
        go_wp2_with fail
        go_roundw
        case rel =>
          refine ⟨k + 1, hs, by omega, by go_num, ?_⟩
          rw [HTK.out, show paBelow (ps.take k ++ [(u, body)]) t = paBelow (ps.take k) t by rw [paBelow, List.filter_append, List.filter_cons_of_neg (by simpa using hut), List.filter_nil, List.append_nil]; rfl]
          exact HO.out
        case measure => simp [intOf]; omega
    · obtain rfl : k = n := by omega
      have htk : ps.take k = ps := List.take_of_length_le (by rw [HL.out]; exact Nat.le_refl _)
      have ho := HO.out
      rw [htk] at ho
      have hlen := ho.len
      obtain ⟨A2, c2, e2, hown⟩ := ho.psOwn
      injection e2 with e21 _ e22
      subst e21; subst e22
      have hlen2 : hs.length = (paBelow ps t).length := hlen
      have HOWN := Lib.hid hown
      have HB := Lib.hid ho.below
      have HLEN := Lib.hid hlen2
      clear htk ho hlen hown hB hlen2 HO
      go_wp2_with fail
      go_ret
      refine ⟨AA, cc, _, by rw [← HLEN.out]; rfl, by rw [← HLEN.out]; exact HOWN.out, HB.out⟩
end Go.Proofs.YtlcnjdpfijgcdaaGreatDoor
