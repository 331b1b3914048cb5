/- The walk over slices.BinarySearchFunc at pieces whose types rise; What holds while params.Get works. -/
import Derived.Test.YtadpgodmkodgdaaXRGuidesRoom29
import Derived.Test.YtadpgodmkodgdaaXRGuidesRoom22
import Derived.Test.YtadpgodmkodgdaaXRGuidesRoom26
namespace Go.Proofs.Ytadpgodmkodgdaa
open Go.RowKit
set_option linter.unusedSimpArgs false
set_option linter.unusedVariables false

def hasT (ts : List Int) (t : Int) : Bool := decide (t ∈ ts)
set_option maxHeartbeats 1000000 in
theorem withc_any (u t : Int) (B : Option Addr) (m c : Nat) (w : World) (hu : 0 ≤ u ∧ u ≤ 65535) (ht : 0 ≤ t ∧ t ≤ 65535) :
    Calls Try.prog 61 #[.agg #[.int .u16 u, .slice B m c], .int .u16 t] w fun e w' => e = .returned (.int .i64 (u - t)) ∧ Below w.heap.size w w' := by
  have h1 : IntKind.i64.wrap u = u := IntWalk.i64_in _ (by omega)
  have h2 : IntKind.i64.wrap t = t := IntWalk.i64_in _ (by omega)
  have h3 : IntKind.i64.wrap (u - t) = u - t := IntWalk.i64_in _ (by omega)
  go_enter Try.func61, Try.ntmps61
  go_wp2_with fail
  go_ret
  exact ⟨rfl, new_belowB w _⟩

set_option maxRecDepth 100000 in
set_option maxHeartbeats 2000000 in
theorem bins_any (A : Option Addr) (n c : Nat) (t : Int) (ts : List Int) (w : World) (h : TyRow w A n ts) (hok : ∀ u ∈ ts, 0 ≤ u ∧ u ≤ 65535) (ht : 0 ≤ t ∧ t ≤ 65535)
    (hr : ∀ (i j : Nat) (u v : Int), i < j → ts[i]? = some u → ts[j]? = some v → u < v) :
    Calls Try.prog 60 #[.slice A n c, .int .u16 t, .func (.func 61) #[] #[]] w fun e w' => ∃ i : Nat, e = .returned (.tuple #[.int .i64 (i : Int), .bool (hasT ts t)]) ∧ i ≤ n ∧ (∀ k u, k < i → ts[k]? = some u → u < t) ∧ (∀ k u, i ≤ k → ts[k]? = some u → t ≤ u) ∧ Below w.heap.size w w' := by
  have hl := h.1
  have hbig := h.2.1
  have HT := Lib.hid h
  have HL := Lib.hid hl
  have HOK := Lib.hid hok
  have HR := Lib.hid hr
  clear h hl hok hr
  go_enter Try.func60, Try.ntmps60
  go_wp2_with fail
  go_loopw [9, 10] (fun a b wr => ∃ i j : Nat, i ≤ j ∧ j ≤ n ∧ a = .int .i64 i ∧ b = .int .i64 j ∧ (∀ k u, k < i → ts[k]? = some u → u < t) ∧ (∀ k u, j ≤ k → ts[k]? = some u → t ≤ u) ∧ Below w.heap.size w wr) (fun a b _ => (intOf b - intOf a).toNat)
  case atStart => exact ⟨0, n, Nat.zero_le _, Nat.le_refl _, rfl, rfl, fun k u hk => absurd hk (by omega), fun k u hk hu => absurd (List.getElem?_eq_some_iff.1 hu).1 (by have := HL.out; omega), Below.refl _ _⟩
  case round =>
    obtain ⟨i, j, hij, hjn, rfl, rfl, hlo, hhi, hB⟩ := hrel
    have HLO := Lib.hid hlo
    have HHI := Lib.hid hhi
    have HB := Lib.hid hB
    have a0 : (0 : Int) ≤ (i : Int) := by omega
    have b0 : (0 : Int) ≤ (j : Int) := by omega
    clear hlo hhi
    by_cases hlt : i < j
    · obtain ⟨m, hm⟩ : ∃ m, (i + j) / 2 = m := ⟨_, rfl⟩
      have hmi : i ≤ m := by omega
      have hmj : m < j := by omega
      obtain ⟨b, off, rfl, hb, hc⟩ := (HT.out.below hB).2.2 (by omega)
      obtain ⟨u, B, bm, d, h1, h2, h3⟩ := hc m (by omega)
      have hu := HOK.out u (List.mem_of_getElem? h1)
      have hcl := withc_any u t B bm d wr hu ht
      have w1 : IntKind.i64.wrap ((i : Int) + (j : Int)) = (i : Int) + (j : Int) := IntWalk.i64_in _ (by omega)
      have w2 : IntKind.u64.wrap ((i : Int) + (j : Int)) = (i : Int) + (j : Int) := IntWalk.u64_in _ (by omega)
      have w3 : ((i : Int) + (j : Int)) / 2 = (m : Int) := by omega
      have w4 : IntKind.i64.wrap (m : Int) = (m : Int) := IntWalk.i64_in _ (by omega)
      have w5 : IntKind.i64.wrap ((m : Int) + 1) = (m : Int) + 1 := IntWalk.i64_in _ (by omega)
      have m0 : (0 : Int) ≤ (m : Int) := by omega
      have m1 : (m : Int) < (n : Int) := by omega
      have l1 : (i : Int) < (j : Int) := by omega
      have H1 := Lib.hid h1
      have HC := Lib.hid hcl
      clear hB hc h1 hcl hu
      by_cases hut : u - t < 0
      · go_wp2_with fail
        refine HC.out.mono ?_; rintro e w1 ⟨rfl, hB1⟩
        have HB1 := Lib.hid (HB.out.trans (hB1.mono HB.out.size))
        clear hB1
        go_wp2_with fail
        go_roundw
        case rel =>
          refine ⟨m + 1, j, by omega, hjn, by go_num, rfl, fun k v hk hv => ?_, HHI.out, HB1.out⟩
          rcases Nat.lt_or_ge k m with h | h
          · have := HR.out k m v u h hv H1.out
            omega
          · obtain rfl : k = m := by omega
            rw [H1.out] at hv
            injection hv with hv
            omega
        case measure => simp [intOf]; omega
      · go_wp2_with fail
        refine HC.out.mono ?_; rintro e w1 ⟨rfl, hB1⟩
        have HB1 := Lib.hid (HB.out.trans (hB1.mono HB.out.size))
        clear hB1
        go_wp2_with fail
        go_roundw
        case rel =>
          refine ⟨i, m, by omega, by omega, rfl, rfl, HLO.out, fun k v hk hv => ?_, HB1.out⟩
          rcases Nat.lt_or_ge m k with h | h
          · have := HR.out m k u v h H1.out hv
            omega
          · obtain rfl : k = m := by omega
            rw [H1.out] at hv
            injection hv with hv
            omega
        case measure => simp [intOf]; omega
    · obtain rfl : i = j := by omega
      by_cases hin : i < n
      · obtain ⟨b, off, rfl, hb, hc⟩ := (HT.out.below hB).2.2 (by omega)
        obtain ⟨u, B, bm, d, h1, h2, h3⟩ := hc i hin
        have hu := HOK.out u (List.mem_of_getElem? h1)
        have hcl := withc_any u t B bm d wr hu ht
        have hhas : hasT ts t = (u - t == 0) := by
          by_cases e : u = t
          · subst e
            rw [hasT, decide_eq_true (List.mem_of_getElem? h1), eq_comm]
            simp
          · have h4 : ¬ t ∈ ts := fun hm => by
              obtain ⟨k, hk⟩ := List.mem_iff_getElem?.1 hm
              rcases Nat.lt_or_ge k i with h | h
              · have := HLO.out k t h hk; omega
              · rcases Nat.lt_or_ge i k with h5 | h5
                · have h6 := HR.out i k u t h5 h1 hk
                  have h7 := HHI.out i u (Nat.le_refl _) h1
                  omega
                · obtain rfl : k = i := by omega
                  rw [h1] at hk
                  injection hk with hk
                  exact e hk
            rw [hasT, decide_eq_false h4, eq_comm]
            exact beq_eq_false_iff_ne.2 (by omega)
        obtain ⟨q, hq⟩ : ∃ q, (u - t == 0) = q := ⟨_, rfl⟩
        rw [hq] at hhas
        have HHAS := Lib.hid hhas
        have HC := Lib.hid hcl
        have l1 : (i : Int) < (n : Int) := by omega
        clear hB hc h1 hcl hu hhas
        go_wp2_with fail
        refine HC.out.mono ?_; rintro e w1 ⟨rfl, hB1⟩
        have HB1 := Lib.hid (HB.out.trans (hB1.mono HB.out.size))
        clear hB1
        go_wp2_with fail
        go_ret2
        exact ⟨i, by rw [HHAS.out]; rfl, by omega, HLO.out, HHI.out, HB1.out⟩
      · obtain rfl : i = n := by omega
        have hhas : hasT ts t = false := by
          rw [hasT, decide_eq_false]
          intro hm
          obtain ⟨k, hk⟩ := List.mem_iff_getElem?.1 hm
          have hki : k < i := by have := (List.getElem?_eq_some_iff.1 hk).1; have := HL.out; omega
          have := HLO.out k t hki hk; omega
        have HHAS := Lib.hid hhas
        clear hB hhas
        go_wp2_with fail
        go_ret2
        exact ⟨i, by rw [HHAS.out]; rfl, Nat.le_refl _, HLO.out, HHI.out, HB.out⟩
end Go.Proofs.Ytadpgodmkodgdaa

namespace Go.Proofs.Ytadpgodmkodgdaa
open Go.RowKit
set_option linter.unusedSimpArgs false
set_option linter.unusedVariables false

theorem slice_clipP (W : World) (A : Option Addr) (len c m : Nat) (h : m ≤ c) : (Instr.slice 43 (.slice A len c) none (some (.int .i64 (m : Int))) (some (.int .i64 (m : Int)))).run Try.prog W = .ok (.slice A m m) W := by
  rw [run_slice_hm W 43 A len c (by kernel_rfl) .i64 .i64 (m : Int) (m : Int) (by omega) (by omega) (by omega), show (sizeOf (Try.prog.elem 43)).run Try.prog W = .ok 2 W from by kernel_rfl]
  simp only [Result.andThen, sliced]
  have h0 : ∀ ad : Addr, ad.add 0 = ad := fun ad => by cases ad; unfold Addr.add; split <;> simp_all
  cases A with
  | none => simp
  | some ad => simp [h0]
theorem clipP_all (A0 : Option Addr) (n0 c0 : Nat) (w : World) (l0 : n0 ≤ c0) :
    Calls Try.prog 62 #[.slice A0 n0 c0] w fun e w' => e = .returned (.slice A0 n0 n0) ∧ w = w' := by
  have hs := fun W => slice_clipP W A0 n0 c0 n0 l0
  go_enter Try.func62, Try.ntmps62
  go_wp2_with fail
  go_ret
  exact ⟨rfl, rfl⟩
theorem own_own_ne {w : World} {b1 b2 : Nat} {e1 e2 : TypeId} {s1 s2 n1 n2 : Nat} {v1 v2 : Value} {x1 x2 : List Value} (h1 : w.ownsRow b1 e1 s1 v1 n1 x1) (h2 : w.ownsRow b2 e2 s2 v2 n2 x2) (hne : e1 ≠ e2) : ∀ k, v2.ownBlock = some k → ¬ (v1.ownBlock = some k) := fun k hk hk1 => by
  rcases h1.2 with ⟨rfl, _⟩ | ⟨g1, c1, cur1, rfl, _, hh1, _⟩
  · simp [Value.ownBlock] at hk1
  · rcases h2.2 with ⟨rfl, _⟩ | ⟨g2, c2, cur2, rfl, _, hh2, _⟩
    · simp [Value.ownBlock] at hk
    · have e1 : g1 = k := by simpa [Value.ownBlock] using hk1
      have e2 : g2 = k := by simpa [Value.ownBlock] using hk
      subst e1 e2
      rw [hh1] at hh2
      injection hh2 with hh2
      injection hh2 with _ ht
      exact hne ht
/-- A body of a piece that Get made. -/
def BodyAt (w0 w : World) (B : Option Addr) (body : List Int) : Prop := ∃ c', body.length ≤ c' ∧ w.ownsRow w0.heap.size 5 1 (.slice B body.length c') body.length (body.map (Value.int .u8)) ∧ (B = none → body.length = 0)
/-- The pieces so far. -/
def OutAt (w0 : World) (v : Value) (outs : List Piece) (w : World) : Prop :=
  ∃ cells, w.ownsRow w0.heap.size 69 2 v outs.length cells ∧ (∀ j t body, outs[j]? = some (t, body) → ∃ B, cells[j * 2]? = some (.int .u16 t) ∧ cells[j * 2 + 1]? = some (.slice B body.length body.length) ∧ BodyAt w0 w B body) ∧
    (∀ (i j g n c n' c' : Nat), i ≠ j → cells[i * 2 + 1]? = some (.slice (some ⟨g, 0, none⟩) n c) → cells[j * 2 + 1]? ≠ some (.slice (some ⟨g, 0, none⟩) n' c')) ∧ ∀ (i g n c : Nat), cells[i * 2 + 1]? = some (.slice (some ⟨g, 0, none⟩) n c) → g < w.heap.size
theorem OutAt.below {w0 w w' : World} {v : Value} {outs : List Piece} (h : OutAt w0 v outs w) (hB : Below w.heap.size w w') : OutAt w0 v outs w' := by
  obtain ⟨cells, ho, hb, hu, hl⟩ := h
  have keep : ∀ {e : TypeId} {size n : Nat} {v : Value} {xs : List Value}, w.ownsRow w0.heap.size e size v n xs → w'.ownsRow w0.heap.size e size v n xs := fun h => (Keeps.of_below (M := fun _ => False) hB).own h (fun _ _ hf => hf)
  refine ⟨cells, keep ho, fun j t body hj => ?_, hu, fun i g n c hi => Nat.lt_of_lt_of_le (hl i g n c hi) hB.size⟩
  obtain ⟨B, h1, h2, c', h3, h4, h5⟩ := hb j t body hj
  exact ⟨B, h1, h2, c', h3, keep h4, h5⟩
theorem OutAt.keepM {w0 w w' : World} {v : Value} {outs : List Piece} {M : Nat → Prop} (h : OutAt w0 v outs w) (hk : Keeps M w w') (hM : ∀ i, M i → i < w0.heap.size) : OutAt w0 v outs w' := by
  obtain ⟨cells, ho, hb, hu, hl⟩ := h
  have keep : ∀ {e : TypeId} {size n : Nat} {v : Value} {xs : List Value}, w.ownsRow w0.heap.size e size v n xs → w'.ownsRow w0.heap.size e size v n xs := fun h => hk.own h (fun k hk hm => by
    have h1 := (own_base h k hk).1
    have h2 := hM k hm
    omega)
  refine ⟨cells, keep ho, fun j t body hj => ?_, hu, fun i g n c hi => Nat.lt_of_lt_of_le (hl i g n c hi) hk.size⟩
  obtain ⟨B, h1, h2, c', h3, h4, h5⟩ := hb j t body hj
  exact ⟨B, h1, h2, c', h3, keep h4, h5⟩
/-- The pieces are the call's own. -/
theorem OutAt.own {w0 w : World} {outs : List Piece} {A : Option Addr} {n c : Nat} (h : OutAt w0 (.slice A n c) outs w) (hn : outs.length = n) : ∃ cells, PsOwn w0.heap.size w (.slice A n n) outs cells := by
  obtain ⟨cells, ho, hb, hu, _⟩ := h
  subst hn
  have hnc : outs.length ≤ c := by
    obtain ⟨A', c', e, h, _⟩ := own_slice ho
    injection e with _ _ e
    omega
  refine ⟨cells, ⟨A, outs.length, c, rfl, Nat.le_refl _, hnc, ho⟩, fun j t body hj => ?_, hu⟩
  obtain ⟨B, h1, h2, c', h3, h4, _⟩ := hb j t body hj
  exact ⟨B, body.length, h1, h2, B, body.length, c', rfl, Nat.le_refl _, h3, h4⟩
/-- Pieces that stay whatever is done with what was there before. -/
def PsKeep (base : Nat) (w : World) (A : Option Addr) (n : Nat) (ps : List Piece) : Prop := ∀ (M : Nat → Prop) (w2 : World), (∀ i, M i → i < base) → Keeps M w w2 → Ps w2 A n ps ∧ ∃ cells, PsOwn base w2 (.slice A n n) ps cells
theorem PsKeep.ps {base : Nat} {w : World} {A : Option Addr} {n : Nat} {ps : List Piece} (h : PsKeep base w A n ps) : Ps w A n ps := (h (fun _ => False) w (fun _ h => h.elim) (Keeps.refl _ _)).1
theorem PsKeep.own {base : Nat} {w : World} {A : Option Addr} {n : Nat} {ps : List Piece} (h : PsKeep base w A n ps) : ∃ cells, PsOwn base w (.slice A n n) ps cells := (h (fun _ => False) w (fun _ h => h.elim) (Keeps.refl _ _)).2
theorem PsKeep.step {base base' : Nat} {w w' : World} {A : Option Addr} {n : Nat} {ps : List Piece} {M : Nat → Prop} (h : PsKeep base w A n ps) (hk : Keeps M w w') (hM : ∀ i, M i → i < base) (hb : base' ≤ base) : PsKeep base' w' A n ps := fun M' w2 hM' hk' => by
  obtain ⟨h1, cells, h2⟩ := h (fun i => M i ∨ M' i) w2 (fun i hi => hi.elim (hM i) (fun h => Nat.lt_of_lt_of_le (hM' i h) hb)) ((hk.mono (fun i h => .inl h)).trans (hk'.mono (fun i h => .inr h)))
  exact ⟨h1, cells, h2.lower hb⟩
theorem OutAt.snoc {w0 w w1 : World} {m : Nat} {v v1 : Value} {outs : List Piece} {cells : List Value} {t : Int} {body : List Int} {B : Option Addr} (ho : w.ownsRow w0.heap.size 69 2 v outs.length cells)
    (hb : ∀ j t body, outs[j]? = some (t, body) → ∃ B, cells[j * 2]? = some (.int .u16 t) ∧ cells[j * 2 + 1]? = some (.slice B body.length body.length) ∧ BodyAt w0 w B body)
    (hu : ∀ (i j g n c n' c' : Nat), i ≠ j → cells[i * 2 + 1]? = some (.slice (some ⟨g, 0, none⟩) n c) → cells[j * 2 + 1]? ≠ some (.slice (some ⟨g, 0, none⟩) n' c'))
    (hl : ∀ (i g n c : Nat), cells[i * 2 + 1]? = some (.slice (some ⟨g, 0, none⟩) n c) → g < m) (hm : m ≤ w.heap.size) (hnew : ∀ g, B = some ⟨g, 0, none⟩ → m ≤ g ∧ g < w.heap.size) (hB : BodyAt w0 w B body)
    (ho1 : w1.ownsRow w0.heap.size 69 2 v1 (outs.length + 1) (cells ++ [.int .u16 t, .slice B body.length body.length])) (hk : Keeps (fun i => v.ownBlock = some i) w w1) : OutAt w0 v1 (outs ++ [(t, body)]) w1 := by
  have keep : ∀ {B : Option Addr} {body : List Int}, BodyAt w0 w B body → BodyAt w0 w1 B body := fun ⟨c', h3, h4, h5⟩ => ⟨c', h3, hk.own h4 (own_own_ne ho h4 (by decide)), h5⟩
  have hcl : cells.length = outs.length * 2 := ho.1
  have at1 : ∀ i, i < outs.length → (cells ++ [Value.int .u16 t, .slice B body.length body.length])[i * 2 + 1]? = cells[i * 2 + 1]? := fun i hi => List.getElem?_append_left (by omega)
  have at2 : (cells ++ [Value.int .u16 t, .slice B body.length body.length])[outs.length * 2 + 1]? = some (.slice B body.length body.length) := by
    rw [List.getElem?_append_right (by omega), hcl, show outs.length * 2 + 1 - outs.length * 2 = 1 by omega]; rfl
  have lt : ∀ i u, (cells ++ [Value.int .u16 t, .slice B body.length body.length])[i * 2 + 1]? = some u → i < outs.length ∨ i = outs.length := fun i u hi => by
    have := (List.getElem?_eq_some_iff.1 hi).1
    simp at this; omega
  have newB : ∀ g n c, (cells ++ [Value.int .u16 t, .slice B body.length body.length])[outs.length * 2 + 1]? = some (.slice (some ⟨g, 0, none⟩) n c) → m ≤ g ∧ g < w.heap.size := fun g n c h => by
    rw [at2] at h
    injection h with h
    injection h with h _ _
    exact hnew g h
  refine ⟨_, by simpa using ho1, fun j t' body' hj => ?_, fun i j g n c n' c' hne h1 h2 => ?_, fun i g n c h1 => ?_⟩
  · rcases Nat.lt_or_ge j outs.length with h | h
    · rw [List.getElem?_append_left h] at hj
      obtain ⟨B', h1, h2, h3⟩ := hb j t' body' hj
      exact ⟨B', by rw [List.getElem?_append_left (by omega)]; exact h1, by rw [List.getElem?_append_left (by omega)]; exact h2, keep h3⟩
    · have hj' : j = outs.length := by
        have := (List.getElem?_eq_some_iff.1 hj).1
        simp at this; omega
      subst hj'
      simp only [List.getElem?_append_right (Nat.le_refl _), Nat.sub_self, List.getElem?_cons_zero, Option.some.injEq, Prod.mk.injEq] at hj
      obtain ⟨rfl, rfl⟩ := hj
      refine ⟨B, ?_, at2, keep hB⟩
      rw [List.getElem?_append_right (by omega), hcl, Nat.sub_self]; rfl
  · rcases lt i _ h1 with h3 | h3 <;> rcases lt j _ h2 with h4 | h4
    · rw [at1 i h3] at h1
      rw [at1 j h4] at h2
      exact hu i j g n c n' c' hne h1 h2
    · subst h4
      rw [at1 i h3] at h1
      have := newB g n' c' h2
      have := hl i g n c h1
      omega
    · subst h3
      rw [at1 j h4] at h2
      have := newB g n c h1
      have := hl j g n' c' h2
      omega
    · omega
  · rcases lt i _ h1 with h3 | h3
    · rw [at1 i h3] at h1
      have := hl i g n c h1
      have := hk.size
      omega
    · subst h3
      have := newB g n c h1
      have := hk.size
      omega
theorem OutAt.ps {w0 w : World} {outs : List Piece} {A : Option Addr} {n c : Nat} (h : OutAt w0 (.slice A n c) outs w) (hn : outs.length = n) (h16 : n ≤ 16) (hok : ∀ p ∈ outs, okPiece p) (hlen : ∀ p ∈ outs, p.2.length ≤ 2048) : Ps w A n outs := by
  obtain ⟨cells, ho, hb, _⟩ := h
  refine ⟨hn, by omega, fun h0 => ?_⟩
  rcases ho.2 with ⟨e, _⟩ | ⟨g, cap, cur, e, _, hh, _⟩
  · injection e with _ e _; omega
  · injection e with e _ _
    subst e
    refine ⟨g, 0, rfl, (Array.getElem?_eq_some_iff.1 hh).1, fun j hj => ?_⟩
    have hj' : j < outs.length := by omega
    obtain ⟨p, hp⟩ : ∃ p, outs[j] = p := ⟨_, rfl⟩
    obtain ⟨t, body⟩ := p
    have hjj : outs[j]? = some (t, body) := by rw [List.getElem?_eq_getElem hj', hp]
    have hm : (t, body) ∈ outs := List.mem_of_getElem? hjj
    obtain ⟨B, h1, h2, c', h3, h4, h5⟩ := hb j t body hjj
    have hk := hok _ hm
    have hl := hlen _ hm
    obtain ⟨A1, c1, e1, hr, _, _, _⟩ := own_rd h4 hk.2.2 (by simp at hl; omega)
    injection e1 with e1 _ _
    subst e1
    refine ⟨t, body, B, body.length, body.length, hjj, ⟨hk.1, hk.2.1⟩, ?_, ?_, hr, Nat.le_refl _, h5⟩
    · have := ho.cells (g := g) rfl (j * 2) _ h1
      have ha : (⟨g, 0, none⟩ : Addr).add (j * 2) = ⟨g, j * 2, none⟩ := by unfold Addr.add; split <;> simp_all
      rw [ha] at this
      rw [Nat.zero_add]; exact this
    · have := ho.cells (g := g) rfl (j * 2 + 1) _ h2
      have ha : (⟨g, 0, none⟩ : Addr).add (j * 2 + 1) = ⟨g, j * 2 + 1, none⟩ := by unfold Addr.add; split <;> simp_all
      rw [ha] at this
      rw [Nat.zero_add]; exact this
theorem info_param : (Try.prog.info? 69).map (fun i => (i.zero, i.size, i.bytes)) = some (some (.agg #[.int .u16 0, .slice none 0 0]), 2, 32) := by kernel_rfl

theorem own_mono {w : World} {b1 b2 n size : Nat} {e : TypeId} {v : Value} {xs : List Value} (h : w.ownsRow b2 e size v n xs) (hb : b1 ≤ b2) : w.ownsRow b1 e size v n xs := by
  refine ⟨h.1, ?_⟩
  rcases h.2 with h | ⟨g, cap, cur, h1, h2, h3⟩
  · exact .inl h
  · exact .inr ⟨g, cap, cur, h1, Nat.le_trans hb h2, h3⟩
theorem below_drewN {B : Nat} {w w' : World} (h : Below B w w') (n : Nat) : Below B w (w'.drewN n) := ⟨h.os, h.tape, h.output, h.size, h.block⟩
theorem Rd.drewN {w : World} {k : IntKind} {A : Option Addr} {n : Nat} {xs : List Int} (h : Rd w k A n xs) (m : Nat) : Rd (w.drewN m) k A n xs := h.below (below_drewN (Below.refl _ _) m)
theorem OutAt.drewN {w0 w : World} {v : Value} {outs : List Piece} (h : OutAt w0 v outs w) (m : Nat) : OutAt w0 v outs (w.drewN m) := h.below (below_drewN (Below.refl _ _) m)
theorem frame_of (a : Act) (n : Nat) (hs : a.tmps.size = n) (hd : a.defers = []) : a = { tmps := ((List.range n).map (fun i => a.tmps.getD i undef)).toArray, defers := [] } := by
  obtain ⟨t, d⟩ := a
  simp only at hs hd
  subst hd
  congr 1
  apply Array.ext
  · simp [hs]
  · intro i h1 h2
    simp [h1]
theorem frame75 (u : Nat → Value) : ((List.range 75).map u).toArray = #[u 0, u 1, u 2, u 3, u 4, u 5, u 6, u 7, u 8, u 9, u 10, u 11, u 12, u 13, u 14, u 15, u 16, u 17, u 18, u 19, u 20, u 21, u 22, u 23, u 24, u 25, u 26, u 27, u 28, u 29, u 30, u 31, u 32, u 33, u 34, u 35, u 36, u 37, u 38, u 39, u 40, u 41, u 42, u 43, u 44, u 45, u 46, u 47, u 48, u 49, u 50, u 51, u 52, u 53, u 54, u 55, u 56, u 57, u 58, u 59, u 60, u 61, u 62, u 63, u 64, u 65, u 66, u 67, u 68, u 69, u 70, u 71, u 72, u 73, u 74] := rfl
/-- What Get hands back. -/
def GetRes (w : World) (R : Int × List Piece) (e : Ending) (w' : World) : Prop :=
  (R.1 ≠ 0 ∧ e = .returned (.tuple #[.slice none 0 0, .int .i64 R.1]) ∧ Below w.heap.size w w') ∨
  ∃ A, R.1 = 0 ∧ e = .returned (.tuple #[.slice A R.2.length R.2.length, .int .i64 0]) ∧ PsKeep w.heap.size w' A R.2.length R.2 ∧ (A = none → R.2.length = 0) ∧ Below w.heap.size w w'
/-- What holds at the label. -/
structure GetAt (w0 : World) (R : Int × List Piece) (A : Option Addr) (n c : Nat) (v : Value) (last : Int) (w : World) : Prop where
  at_ : ∃ (rest : List Int) (outs : List Piece) (f : Nat), Rd w0 .u8 A n rest ∧ n ≤ c ∧ (A = none → c = 0) ∧ n < f ∧ n ≤ 2048 ∧ getGo f last outs rest = R ∧ OutAt w0 v outs w ∧ Below w0.heap.size w0 w ∧ 0 ≤ last ∧ last ≤ 65535 ∧ outs.length ≤ 16 ∧ (∀ p ∈ outs, okPiece p) ∧ (∀ p ∈ outs, p.2.length ≤ 2048)
def lenOf0 (v : Value) : Nat := match v with | .slice _ n _ => n | _ => 0

end Go.Proofs.Ytadpgodmkodgdaa
