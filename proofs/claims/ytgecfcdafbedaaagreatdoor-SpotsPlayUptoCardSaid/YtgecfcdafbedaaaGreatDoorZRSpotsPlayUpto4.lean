/- A set of spots: New, State, Best, List. -/
import Derived.Test.YtgecfcdafbedaaaGreatDoorZRSpotsPlayUpto3
import Derived.Lib.SliceRun
namespace Go.Proofs.YtgecfcdafbedaaaGreatDoor
open Go.RowKit
set_option linter.unusedSimpArgs false
set_option linter.unusedVariables false

theorem find_first {q : Spt → Bool} : ∀ {l : List Spt} {i : Nat} {s : Spt}, l[i]? = some s → q s = true → (∀ j s', j < i → l[j]? = some s' → q s' = false) → l.find? q = some s
  | [], i, s, h, _, _ => by simp at h
  | x :: l, 0, s, h, hq, _ => by
    simp at h; subst h
    simp [hq]
  | x :: l, i + 1, s, h, hq, hp => by
    have h0 := hp 0 x (by omega) rfl
    rw [List.find?_cons, h0]
    exact find_first (i := i) (by simpa using h) hq (fun j s' hj hs => hp (j + 1) s' (by omega) (by simpa using hs))
theorem find_no {q : Spt → Bool} {l : List Spt} (h : ∀ s ∈ l, q s = false) : l.find? q = none := by
  rw [List.find?_eq_none]
  intro s hs
  rw [h s hs]
  exact Bool.false_ne_true
theorem findAt_any {p g : Nat} {l : List Spt} {cr : Int} {w : World} (h : SetAt w p g l cr) (a : Int) :
    Calls Tryz.prog 29 #[.pointer (some ⟨p, 0, none⟩), .func (.func 83) #[] #[.pointer (some ⟨w.heap.size, 0, none⟩)]] (w.alloc (.cells #[.int .u32 a] 23)) (FindS (w.alloc (.cells #[.int .u32 a] 23)) g l (isAt a)) :=
  find_at p g w.heap.size l cr (isAt a) _ (h.below (new_belowS _ _)) (fun s hs W hB => by
    have hk := Blk.new w 23 [.int .u32 a]
    exact atc_any s a w.heap.size W ((hk.below hB hk.lt).cell 0))
/-- What New makes. -/
theorem new_any (a : Int) (w : World) (ha : 1 ≤ a ∧ a ≤ 4294967295) :
    Calls Tryz.prog 5 #[.int .u32 a] w fun e w' => ∃ p g, e = .returned (.tuple #[.pointer (some ⟨p, 0, none⟩), .int .i64 0]) ∧ w.heap.size ≤ p ∧ w.heap.size ≤ g ∧ SetAt w' p g [⟨a, 2, none⟩] 0 ∧ Below w.heap.size w w' := by
  have hne : (a == 0) = false := beq_eq_false_iff_ne.2 (by omega)
  have HA := Lib.hid ha
  clear ha
  go_enter Tryz.func5, Tryz.ntmps5
  go_wp2_with fail
  go_ret2
  have hB1 := new_belowS w (.cells #[.int .u32 a, .int .u8 2, .pointer none] 74)
  have hk1 := Blk.new w 74 [.int .u32 a, .int .u8 2, .pointer none]
  have hk2 := Blk.new (w.alloc (.cells #[.int .u32 a, .int .u8 2, .pointer none] 74)) 77 [.slice (some ⟨w.heap.size, 0, none⟩) 1 1, .int .i64 0]
  rw [show (w.alloc (.cells #[.int .u32 a, .int .u8 2, .pointer none] 74)).heap.size = w.heap.size + 1 from by simp] at hk2
  refine ⟨_, w.heap.size, rfl, by simp, Nat.le_refl _, ⟨hk2, hk1.alloc _, fun s hs q hq => ?_, ⟨by simp, by simp⟩, fun s hs => ?_, fun s hs => ?_, by omega⟩, (hB1.alloc (by simp) _)⟩
  · simp at hs; subst hs; cases hq
  · simp at hs; subst hs; have := HA.out; simp only; omega
  · simp at hs; subst hs; exact .inr rfl
theorem new_zero (w : World) : Calls Tryz.prog 5 #[.int .u32 0] w fun e w' => e = .returned (.tuple #[.pointer none, .int .i64 1]) ∧ w = w' := by
  go_enter Tryz.func5, Tryz.ntmps5
  go_wp2_with fail
  go_ret2
  exact ⟨rfl, rfl⟩
/-- What is known of a spot. -/
def stateOf (l : List Spt) (a : Int) : Int := match l.find? (isAt a) with
  | some s => s.st
  | none => 0
theorem SetAt.cell1 {w : World} {p g : Nat} {l : List Spt} {cr : Int} (h : SetAt w p g l cr) {i : Nat} {s : Spt} (hi : l[i]? = some s) : w.cell? ⟨g, 3 * i, none⟩ = some (.int .u32 s.at_) ∧ w.cell? ⟨g, 3 * i + 1, none⟩ = some (.int .u8 s.st) ∧ w.cell? ⟨g, 3 * i + 2, none⟩ = some (sumV s.sum) := by
  refine ⟨?_, ?_, ?_⟩
  · have := rowS_at l i s hi 0 (by omega)
    rw [Nat.add_zero] at this
    rw [h.row.cell, this]; rfl
  · rw [h.row.cell, rowS_at l i s hi 1 (by omega)]; rfl
  · rw [h.row.cell, rowS_at l i s hi 2 (by omega)]; rfl
theorem state_any {p g : Nat} {l : List Spt} {cr : Int} {w : World} (h : SetAt w p g l cr) (a : Int) :
    Calls Tryz.prog 24 #[.pointer (some ⟨p, 0, none⟩), .int .u32 a] w fun e w' => e = .returned (.int .u8 (stateOf l a)) ∧ Below w.heap.size w w' := by
  have HT := Lib.hid h
  have HF := Lib.hid (findAt_any h a)
  have HB0 := Lib.hid (new_belowS w (.cells #[.int .u32 a] 23))
  clear h
  go_enter Tryz.func24, Tryz.ntmps24
  go_wp2_with fail
  refine (there_set HT.out).mono ?_; rintro e w' ⟨rfl, rfl⟩
  go_wp2_with fail
  refine (at_any a w).mono ?_; rintro e w' ⟨rfl, rfl⟩
  go_wp2_with fail
  refine HF.out.mono ?_; rintro e w1 ⟨hr, hB1⟩
  have HB1 := Lib.hid (HB0.out.trans (hB1.mono HB0.out.size))
  clear hB1 HF
  rcases hr with ⟨i, s, hi, hq, hp, rfl⟩ | ⟨hno, Y, hY, rfl, hk⟩
  · have k1 : w1.cell? ⟨g, 3 * i + 1, none⟩ = some (.int .u8 s.st) := ((HT.out.below HB1.out).cell1 hi).2.1
    have HA : Hid (stateOf l a = s.st) := Lib.hid (by unfold stateOf; rw [find_first hi hq hp])
    clear hi hq hp
    go_wp2_with fail
    go_ret
    exact ⟨ret_int HA.out.symm, HB1.out⟩
  · have HA : Hid (stateOf l a = 0) := Lib.hid (by unfold stateOf; rw [find_no hno])
    clear hno hY hk
    go_wp2_with fail
    go_ret
    exact ⟨ret_int HA.out.symm, HB1.out⟩
/-- The best spot, and whether it is sure. -/
def isSure (s : Spt) : Bool := s.st == 2
def bestOf (l : List Spt) : Int × Bool := match l.find? isSure with
  | some s => (s.at_, true)
  | none => ((l[0]?.map (·.at_)).getD 0, false)
set_option maxRecDepth 100000 in
set_option maxHeartbeats 1000000 in
theorem best_any {p g : Nat} {l : List Spt} {cr : Int} {w : World} (h : SetAt w p g l cr) :
    Calls Tryz.prog 21 #[.pointer (some ⟨p, 0, none⟩)] w fun e w' => e = .returned (.tuple #[.int .u32 (bestOf l).1, .bool (bestOf l).2]) ∧ Below w.heap.size w w' := by
  have HT := Lib.hid h
  have c0 := h.c0
  obtain ⟨n, hn⟩ : ∃ n, l.length = n := ⟨_, rfl⟩
  have hn4 : 1 ≤ n ∧ n ≤ 4 := by have := h.len; omega
  have HN := Lib.hid hn
  rw [hn] at c0
  obtain ⟨s0, hs0⟩ : ∃ s0, l[0]? = some s0 := ⟨_, List.getElem?_eq_getElem (by omega)⟩
  have HS0 := Lib.hid hs0
  have k0 : w.cell? ⟨g, 0, none⟩ = some (.int .u32 s0.at_) := (h.cell1 hs0).1
  obtain ⟨a0, ha0⟩ : ∃ a, s0.at_ = a := ⟨_, rfl⟩
  rw [ha0] at k0
  have HA0 := Lib.hid ha0
  clear h hn hs0 ha0
  go_enter Tryz.func21, Tryz.ntmps21
  go_wp2_with fail
  go_step3
  go_wp2_with fail
  refine (there_set HT.out).mono ?_; rintro e w' ⟨rfl, rfl⟩
  go_wp2_with fail
  go_step3
  go_wp2_with fail
  go_loopw [2, 3, 21] (fun b q i wr => ∃ k : Nat, k ≤ n ∧ i = .int .i64 k ∧ b = .int .u32 a0 ∧ q = .bool false ∧ (∀ j e, j < k → l[j]? = some e → isSure e = false) ∧ Below w.heap.size w wr) (fun _ _ i _ => n - (intOf i).toNat)
  case atStart => exact ⟨0, Nat.zero_le _, rfl, rfl, rfl, fun j e hj _ => absurd hj (by omega), Below.refl _ _⟩
  case round =>
    obtain ⟨k, hk, rfl, rfl, rfl, hpre, hB⟩ := hrel
    by_cases hlt : k < n
    · obtain ⟨e, he⟩ : ∃ e, l[k]? = some e := ⟨_, List.getElem?_eq_getElem (by rw [HN.out]; exact hlt)⟩
      obtain ⟨m0, m1, m2⟩ := (HT.out.below hB).cell1 he
      have hr := (HT.out.below hB).range he (rfl : k * 3 = k * 3)
      have HE := Lib.hid he
      have HPRE := Lib.hid hpre
      have HB := Lib.hid hB
      have HR : Hid (wr.rangeAt g (k * 3) [.int .u32 e.at_, .int .u8 e.st, sumV e.sum]) := Lib.hid hr
      obtain ⟨ea, hea⟩ : ∃ x, e.at_ = x := ⟨_, rfl⟩
      obtain ⟨es, hes⟩ : ∃ x, e.st = x := ⟨_, rfl⟩
      obtain ⟨ev, hev⟩ : ∃ x, sumV e.sum = .pointer x := ⟨_, rfl⟩
      rw [hea, hes, hev] at HR
      have HEA := Lib.hid hea
      have HES := Lib.hid hes
      have HU := Lib.hid Tryz.underlying74
      have i0 : (0 : Int) ≤ (k : Int) := by omega
      have i1 : (k : Int) < (n : Int) := by omega
      by_cases h2 : es = 2
      · subst h2
        have HQ : Hid (bestOf l = (ea, true)) := Lib.hid (by
          unfold bestOf
          rw [find_first he (by unfold isSure; rw [hes]; rfl) hpre]
          simp only [hea])
        clear he hpre hB m0 m1 m2 hr hea hes hev
        go_wp2_with (refine wpList_load_mid rfl 74 _ rfl g _ rfl [.int .u32 ea, .int .u8 2, .pointer ev] _ HR.out HU.out rfl size_spt ?_)
        rw [Exit.noGoto_ret]
        go_ret2
        exact ⟨by rw [HQ.out]; rfl, HB.out.alloc HB.out.size _⟩
      · have hq : isSure e = false := by unfold isSure; rw [hes]; exact beq_eq_false_iff_ne.2 h2
        have hqb : (es == 2) = false := beq_eq_false_iff_ne.2 h2
        have HQ := Lib.hid hq
        clear he hpre hB m0 m1 m2 hr hea hes hev hq h2
        go_wp2_with (refine wpList_load_mid rfl 74 _ rfl g _ rfl [.int .u32 ea, .int .u8 es, .pointer ev] _ HR.out HU.out rfl size_spt ?_)
        go_roundw
        case rel =>
          refine ⟨k + 1, by omega, by go_num, rfl, rfl, fun j e' hj hje => ?_, HB.out.alloc HB.out.size _⟩
          rcases Nat.lt_or_ge j k with h | h
          · exact HPRE.out j e' h hje
          · obtain rfl : j = k := by omega
            rw [HE.out] at hje
            injection hje with hje
            subst hje
            exact HQ.out
        case measure => simp [intOf]; omega
    · obtain rfl : k = n := by omega
      have HQ : Hid (bestOf l = (a0, false)) := Lib.hid (by
        unfold bestOf
        rw [find_no (bare_noneS (by rw [HN.out]; exact hpre)), HS0.out]
        simp [HA0.out])
      have HB := Lib.hid hB
      clear hpre hB
      go_wp2_with fail
      rw [Exit.noGoto_ret]
      go_ret2
      exact ⟨by rw [HQ.out]; rfl, HB.out⟩
theorem clipSp_all (A0 : Option Addr) (n0 c0 : Nat) (w : World) (l0 : n0 ≤ c0) :
    Calls Tryz.prog 34 #[.slice A0 n0 c0] w fun e w' => e = .returned (.slice A0 n0 n0) ∧ w = w' := by
  have hs : ∀ W, (Instr.slice 50 (.slice A0 n0 c0) none (some (.int .i64 (n0 : Int))) (some (.int .i64 (n0 : Int)))).run Tryz.prog W = .ok (.slice A0 n0 n0) W := fun W => by
    rw [run_slice_hm W 50 A0 n0 c0 (by kernel_rfl) .i64 .i64 (n0 : Int) (n0 : Int) (by omega) (by omega) (by omega), show (sizeOf (Tryz.prog.elem 50)).run Tryz.prog W = .ok 1 W from by kernel_rfl]
    simp only [Result.andThen, sliced]
    have h0 : ∀ ad : Addr, ad.add 0 = ad := fun ad => by cases ad; unfold Addr.add; split <;> simp_all
    cases A0 with
    | none => simp
    | some ad => simp [h0]
  go_enter Tryz.func34, Tryz.ntmps34
  go_wp2_with fail
  go_ret
  exact ⟨rfl, rfl⟩
theorem info_spotS : (Tryz.prog.info? 23).map (fun i => (i.zero, i.size, i.bytes)) = some (some (.int .u32 0), 1, 4) := by kernel_rfl
/-- A new list of spots, just as many as it has room for. -/
def ListS (w : World) (xs : List Int) (e : Ending) (w' : World) : Prop :=
  ∃ A cells, e = .returned (.slice A xs.length xs.length) ∧ (0 < xs.length → ∃ G, A = some ⟨G, 0, none⟩ ∧ w.heap.size ≤ G ∧ Blk w' G 23 cells ∧ cells.take xs.length = xs.map (Value.int .u32)) ∧ (xs.length = 0 → A = none) ∧ Below w.heap.size w w'
theorem wf_of_u32S {x : Int} (h : 0 ≤ x ∧ x ≤ 4294967295) : (Lit.int .u32 x).wf = true := by
  simp only [Lit.wf, Bool.and_eq_true, decide_eq_true_eq]
  exact h
theorem ListS.rd {w : World} {xs : List Int} {e : Ending} {w' : World} (h : ListS w xs e w') (hb : ∀ x ∈ xs, 0 ≤ x ∧ x ≤ 4294967295) (hl : xs.length ≤ 140737488351232) : ∃ A, e = .returned (.slice A xs.length xs.length) ∧ Rd w' .u32 A xs.length xs ∧ (A = none → xs.length = 0) := by
  obtain ⟨A, cells, he, hr, hz, hB⟩ := h
  refine ⟨A, he, ⟨rfl, hl, fun x hx => wf_of_u32S (hb x hx), fun h0 => ?_⟩, fun hA => ?_⟩
  · obtain ⟨G, rfl, hG, hk, ht⟩ := hr h0
    refine ⟨G, 0, rfl, hk.lt, fun j hj => ?_⟩
    rw [Nat.zero_add, hk.cell j, show cells[j]? = (cells.take xs.length)[j]? by simp [List.getElem?_take, hj], ht]
    simp [hj]
  · rcases Nat.eq_zero_or_pos xs.length with h0 | h0
    · exact h0
    · obtain ⟨G, h1, _⟩ := hr h0
      rw [hA] at h1; cases h1
/-- A row of spots of the call's own. -/
theorem own_listS {w w' : World} {n c : Nat} {A : Option Addr} {xs : List Int} (h : w'.ownsRow w.heap.size 23 1 (.slice A n c) n (xs.map (Value.int .u32))) (hB : Below w.heap.size w w') (hz : xs = [] → A = none) : ListS w xs (.returned (.slice A n n)) w' := by
  have hn : xs.length = n := by have := h.1; simpa using this
  subst hn
  rcases h.2 with ⟨h1, h2⟩ | ⟨g, cap, cur, h1, h2, h3, h4, h5, h6, h7⟩
  · injection h1 with h1
    subst h1
    have : xs = [] := by simpa using h2
    subst this
    exact ⟨none, [], rfl, fun h => absurd h (by simp), fun _ => rfl, hB⟩
  · injection h1 with h1 _ _
    subst h1
    refine ⟨_, cur.toList, rfl, fun _ => ⟨g, rfl, h2, by unfold Blk; rw [h3], by rw [Nat.mul_one] at h7; exact h7⟩, fun h => by rw [hz (List.eq_nil_of_length_eq_zero h)], hB⟩
theorem append_intAt {P : Program} {ops : Array Oper} {rest : List Oper} {o : Oper} {a : Act} {Q : Exit → Act → World → Prop} {W : World} (base : Nat) (hgd : o.guard = none) (s x : Operand) (t e : TypeId) (k : IntKind) (bytes : Nat)
    (ho : o.op = .call { callee := .builtin .append, args := #[s, x], argTypes := #[t, t] })
    (ht : P.underlying t = some (.slice e)) (hinfo : (P.info? e).map (fun i => (i.zero, i.size, i.bytes)) = some (some (.int k 0), 1, bytes)) (hb0 : 0 < bytes)
    (v : Value) (n : Nat) (xs : List Int) (y : Int) (hs : a.eval s = v) (b : Nat) (hb : b = W.heap.size) (hx : a.eval x = .slice (some ⟨b, 0, none⟩) 1 1)
    (HO : W.ownsRow base e 1 v n (xs.map (Value.int k))) (hbase : base ≤ W.heap.size) (hl : (n + 1) * bytes ≤ 140737488355328)
    (h : ∀ v1 w1, w1.ownsRow base e 1 v1 (n + 1) ((xs ++ [y]).map (Value.int k)) → Keeps (fun i => v.ownBlock = some i) W w1 → (v1.ownBlock = v.ownBlock ∨ ∃ b, v1.ownBlock = some b ∧ W.heap.size ≤ b) → wpList P ops Q rest (a.put o.dst v1) w1) :
    wpList P ops Q (o :: rest) a (W.alloc (.cells #[.int k y] e)) := by
  subst hb
  exact append_int base hgd s x t e k bytes ho ht hinfo hb0 v n xs y hs hx HO hbase hl h
theorem own_nextS {w wr w1 : World} {v : Value} {n : Nat} {xs : List Int} (hB : Below w.heap.size w wr) (ho : wr.ownsRow w.heap.size 23 1 v n (xs.map (Value.int .u32))) (hk : Keeps (fun i => v.ownBlock = some i) wr w1) : Below w.heap.size w w1 :=
  below_keeps hB hk (Nat.le_refl _) (fun i hi => (own_base ho i hi).1)
set_option maxRecDepth 100000 in
set_option maxHeartbeats 1000000 in
theorem list_own {p g : Nat} {l : List Spt} {cr : Int} {w : World} (h : SetAt w p g l cr) :
    Calls Tryz.prog 20 #[.pointer (some ⟨p, 0, none⟩)] w fun e w' => ListS w (l.map (·.at_)) e w' ∧ ∃ A c n, n = l.length ∧ e = .returned (.slice A n n) ∧ w'.ownsRow w.heap.size 23 1 (.slice A n c) n ((l.map (·.at_)).map (Value.int .u32)) := by
  have HT := Lib.hid h
  have c0 := h.c0
  obtain ⟨n, hn⟩ : ∃ n, l.length = n := ⟨_, rfl⟩
  have hn4 : 1 ≤ n ∧ n ≤ 4 := by have := h.len; omega
  have HN := Lib.hid hn
  rw [hn] at c0
  clear h hn
  go_enter Tryz.func20, Tryz.ntmps20
  go_wp2_with fail
  refine (there_set HT.out).mono ?_; rintro e w' ⟨rfl, rfl⟩
  go_wp2_with fail
  go_loopw [2, 13] (fun v i wr => ∃ k : Nat, k ≤ n ∧ i = .int .i64 k ∧ wr.ownsRow w.heap.size 23 1 v k (((l.take k).map (·.at_)).map (Value.int .u32)) ∧ Below w.heap.size w wr) (fun _ i _ => n - (intOf i).toNat)
  case atStart => exact ⟨0, Nat.zero_le _, rfl, own_nil _ _ _ _, Below.refl _ _⟩
  case round =>
    obtain ⟨k, hk, rfl, ho, hB⟩ := hrel
    obtain ⟨A, c, rfl, hkc, hcm, -⟩ := own_slice ho
    by_cases hlt : k < n
    · obtain ⟨e, he⟩ : ∃ e, l[k]? = some e := ⟨_, List.getElem?_eq_getElem (by rw [HN.out]; exact hlt)⟩
      have hr := (HT.out.below hB).range he (rfl : k * 3 = k * 3)
      have HB := Lib.hid hB
      have HO := Lib.hid ho
      have HR : Hid (wr.rangeAt g (k * 3) [.int .u32 e.at_, .int .u8 e.st, sumV e.sum]) := Lib.hid hr
      have htk : (l.take (k + 1)).map (·.at_) = (l.take k).map (·.at_) ++ [e.at_] := by
        have hl := (List.getElem?_eq_some_iff.1 he).1
        rw [List.take_succ_eq_append_getElem hl, List.map_append, List.map_cons, List.map_nil, show l[k] = e from (List.getElem?_eq_some_iff.1 he).2]
      obtain ⟨ea, hea⟩ : ∃ x, e.at_ = x := ⟨_, rfl⟩
      obtain ⟨es, hes⟩ : ∃ x, e.st = x := ⟨_, rfl⟩
      obtain ⟨ev, hev⟩ : ∃ x, sumV e.sum = .pointer x := ⟨_, rfl⟩
      rw [hea, hes, hev] at HR
      rw [hea] at htk
      have HTK := Lib.hid htk
      have HU := Lib.hid Tryz.underlying74
      obtain ⟨ys, hys⟩ : ∃ ys, (l.take k).map (·.at_) = ys := ⟨_, rfl⟩
      rw [hys] at HO HTK
      have i0 : (0 : Int) ≤ (k : Int) := by omega
      have i1 : (k : Int) < (n : Int) := by omega
      have HO2 := Lib.hid (HO.out.alloc (.cells #[.int .u32 ea, .int .u8 es, .pointer ev] 74))
      have HB2 := Lib.hid (HB.out.alloc HB.out.size (.cells #[.int .u32 ea, .int .u8 es, .pointer ev] 74))
      clear he ho hB hr hea hes hev hys htk
      go_wp2_with (first | (refine wpList_load_mid rfl 74 _ rfl g _ rfl [.int .u32 ea, .int .u8 es, .pointer ev] _ HR.out HU.out rfl size_spt ?_) | (at_builtin; refine append_intAt (W := wr.alloc (.cells #[.int .u32 ea, .int .u8 es, .pointer ev] 74)) w.heap.size rfl _ _ 50 23 .u32 4 rfl Tryz.underlying50 info_spotS (by omega) (.slice A k c) k ys ea rfl (wr.heap.size + 1) (by simp) rfl HO2.out HB2.out.size (by omega) ?_; intro v1 w1 ho1 hk1 _; have HO1 := Lib.hid ho1; have HK1 := Lib.hid hk1; clear ho1 hk1))
      go_roundw
      case rel => exact ⟨k + 1, by omega, by go_num, by rw [HTK.out]; exact HO1.out, own_nextS HB2.out HO2.out HK1.out⟩
      case measure => simp [intOf]; omega
    · obtain rfl : k = n := by omega
      rw [List.take_of_length_le (by rw [HN.out]; omega)] at ho
      have HL := Lib.hid (own_listS ho hB (fun h => by
        have h1 := congrArg List.length h
        rw [List.length_map, HN.out] at h1
        simp at h1
        omega))
      have HO := Lib.hid ho
      clear ho hB
      go_wp2_with (refine (clipSp_all _ _ _ _ hkc).mono ?_; rintro e w' ⟨rfl, rfl⟩)
      go_ret
      exact ⟨HL.out, A, c, k, HN.out.symm, rfl, HO.out⟩
theorem list_any {p g : Nat} {l : List Spt} {cr : Int} {w : World} (h : SetAt w p g l cr) :
    Calls Tryz.prog 20 #[.pointer (some ⟨p, 0, none⟩)] w (ListS w (l.map (·.at_))) := (list_own h).mono fun _ _ hh => hh.1
end Go.Proofs.YtgecfcdafbedaaaGreatDoor
