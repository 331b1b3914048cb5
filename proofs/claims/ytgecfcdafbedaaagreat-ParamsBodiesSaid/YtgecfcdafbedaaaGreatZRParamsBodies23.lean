/- What holds while params.Get works; The bodies of spots and of a number, at the chapter's own piece: two spots in order are put and got; two that are alike are refused. -/
import Derived.Test.YtgecfcdafbedaaaGreatZRParamsBodies21
import Derived.Test.YtgecfcdafbedaaaGreatZRParamsBodies22
import Derived.Test.YtgecfcdafbedaaaGreatZRParamsBodies12
import Derived.Test.YtgecfcdafbedaaaGreatZRParamsBodies18
namespace Go.Proofs.YtgecfcdafbedaaaGreat
open Go.RowKit
set_option linter.unusedSimpArgs false
set_option linter.unusedVariables false

theorem slice_clipP (W : World) (A : Option Addr) (len c m : Nat) (h : m ≤ c) : (Instr.slice 70 (.slice A len c) none (some (.int .i64 (m : Int))) (some (.int .i64 (m : Int)))).run Tryz.prog W = .ok (.slice A m m) W := by
  rw [run_slice_hm W 70 A len c (by kernel_rfl) .i64 .i64 (m : Int) (m : Int) (by omega) (by omega) (by omega), show (sizeOf (Tryz.prog.elem 70)).run Tryz.prog W = .ok 2 W from by kernel_rfl]
  simp only [Result.andThen, sliced]
  have h0 : ∀ ad : Addr, ad.add 0 = ad := fun ad => by cases ad; unfold Addr.add; split <;> simp_all
  cases A with
  | none => simp
  | some ad => simp [h0]
theorem clipP_all (A0 : Option Addr) (n0 c0 : Nat) (w : World) (l0 : n0 ≤ c0) :
    Calls Tryz.prog 71 #[.slice A0 n0 c0] w fun e w' => e = .returned (.slice A0 n0 n0) ∧ w = w' := by
  have hs := fun W => slice_clipP W A0 n0 c0 n0 l0
  go_enter Tryz.func71, Tryz.ntmps71
  go_wp2_with fail
  go_ret
  exact ⟨rfl, rfl⟩
theorem own_own_ne {w : World} {b1 b2 : Nat} {e1 e2 : TypeId} {s1 s2 n1 n2 : Nat} {v1 v2 : Value} {x1 x2 : List Value} (h1 : w.ownsRow b1 e1 s1 v1 n1 x1) (h2 : w.ownsRow b2 e2 s2 v2 n2 x2) (hne : e1 ≠ e2) : ∀ k, v2.ownBlock = some k → ¬ (v1.ownBlock = some k) := fun k hk hk1 => by
  rcases h1.2 with ⟨rfl, _⟩ | ⟨g1, c1, cur1, rfl, _, hh1, _⟩
  · simp [Value.ownBlock] at hk1
  · rcases h2.2 with ⟨rfl, _⟩ | ⟨g2, c2, cur2, rfl, _, hh2, _⟩
    · simp [Value.ownBlock] at hk
    · have e1 : g1 = k := by simpa [Value.ownBlock] using hk1
      have e2 : g2 = k := by simpa [Value.ownBlock] using hk
      subst e1 e2
      rw [hh1] at hh2
      injection hh2 with hh2
      injection hh2 with _ ht
      exact hne ht
/-- A body of a piece that Get made. -/
def BodyAt (w0 w : World) (B : Option Addr) (body : List Int) : Prop := ∃ c', body.length ≤ c' ∧ w.ownsRow w0.heap.size 5 1 (.slice B body.length c') body.length (body.map (Value.int .u8)) ∧ (B = none → body.length = 0)
/-- The pieces so far. -/
def OutAt (w0 : World) (v : Value) (outs : List Piece) (w : World) : Prop :=
  ∃ cells, w.ownsRow w0.heap.size 69 2 v outs.length cells ∧ (∀ j t body, outs[j]? = some (t, body) → ∃ B, cells[j * 2]? = some (.int .u16 t) ∧ cells[j * 2 + 1]? = some (.slice B body.length body.length) ∧ BodyAt w0 w B body) ∧
    (∀ (i j g n c n' c' : Nat), i ≠ j → cells[i * 2 + 1]? = some (.slice (some ⟨g, 0, none⟩) n c) → cells[j * 2 + 1]? ≠ some (.slice (some ⟨g, 0, none⟩) n' c')) ∧ ∀ (i g n c : Nat), cells[i * 2 + 1]? = some (.slice (some ⟨g, 0, none⟩) n c) → g < w.heap.size
theorem OutAt.below {w0 w w' : World} {v : Value} {outs : List Piece} (h : OutAt w0 v outs w) (hB : Below w.heap.size w w') : OutAt w0 v outs w' := by
  obtain ⟨cells, ho, hb, hu, hl⟩ := h
  have keep : ∀ {e : TypeId} {size n : Nat} {v : Value} {xs : List Value}, w.ownsRow w0.heap.size e size v n xs → w'.ownsRow w0.heap.size e size v n xs := fun h => (Keeps.of_below (M := fun _ => False) hB).own h (fun _ _ hf => hf)
  refine ⟨cells, keep ho, fun j t body hj => ?_, hu, fun i g n c hi => Nat.lt_of_lt_of_le (hl i g n c hi) hB.size⟩
  obtain ⟨B, h1, h2, c', h3, h4, h5⟩ := hb j t body hj
  exact ⟨B, h1, h2, c', h3, keep h4, h5⟩
theorem OutAt.keepM {w0 w w' : World} {v : Value} {outs : List Piece} {M : Nat → Prop} (h : OutAt w0 v outs w) (hk : Keeps M w w') (hM : ∀ i, M i → i < w0.heap.size) : OutAt w0 v outs w' := by
  obtain ⟨cells, ho, hb, hu, hl⟩ := h
  have keep : ∀ {e : TypeId} {size n : Nat} {v : Value} {xs : List Value}, w.ownsRow w0.heap.size e size v n xs → w'.ownsRow w0.heap.size e size v n xs := fun h => hk.own h (fun k hk hm => by
    have h1 := (own_base h k hk).1
    have h2 := hM k hm
    omega)
  refine ⟨cells, keep ho, fun j t body hj => ?_, hu, fun i g n c hi => Nat.lt_of_lt_of_le (hl i g n c hi) hk.size⟩
  obtain ⟨B, h1, h2, c', h3, h4, h5⟩ := hb j t body hj
  exact ⟨B, h1, h2, c', h3, keep h4, h5⟩
/-- The pieces are the call's own. -/
theorem OutAt.own {w0 w : World} {outs : List Piece} {A : Option Addr} {n c : Nat} (h : OutAt w0 (.slice A n c) outs w) (hn : outs.length = n) : ∃ cells, PsOwn w0.heap.size w (.slice A n n) outs cells := by
  obtain ⟨cells, ho, hb, hu, _⟩ := h
  subst hn
  have hnc : outs.length ≤ c := by
    obtain ⟨A', c', e, h, _⟩ := own_slice ho
    injection e with _ _ e
    omega
  refine ⟨cells, ⟨A, outs.length, c, rfl, Nat.le_refl _, hnc, ho⟩, fun j t body hj => ?_, hu⟩
  obtain ⟨B, h1, h2, c', h3, h4, _⟩ := hb j t body hj
  exact ⟨B, body.length, h1, h2, B, body.length, c', rfl, Nat.le_refl _, h3, h4⟩
/-- Pieces that stay whatever is done with what was there before. -/
def PsKeep (base : Nat) (w : World) (A : Option Addr) (n : Nat) (ps : List Piece) : Prop := ∀ (M : Nat → Prop) (w2 : World), (∀ i, M i → i < base) → Keeps M w w2 → Ps w2 A n ps ∧ ∃ cells, PsOwn base w2 (.slice A n n) ps cells
theorem PsKeep.ps {base : Nat} {w : World} {A : Option Addr} {n : Nat} {ps : List Piece} (h : PsKeep base w A n ps) : Ps w A n ps := (h (fun _ => False) w (fun _ h => h.elim) (Keeps.refl _ _)).1
theorem PsKeep.own {base : Nat} {w : World} {A : Option Addr} {n : Nat} {ps : List Piece} (h : PsKeep base w A n ps) : ∃ cells, PsOwn base w (.slice A n n) ps cells := (h (fun _ => False) w (fun _ h => h.elim) (Keeps.refl _ _)).2
theorem PsKeep.step {base base' : Nat} {w w' : World} {A : Option Addr} {n : Nat} {ps : List Piece} {M : Nat → Prop} (h : PsKeep base w A n ps) (hk : Keeps M w w') (hM : ∀ i, M i → i < base) (hb : base' ≤ base) : PsKeep base' w' A n ps := fun M' w2 hM' hk' => by
  obtain ⟨h1, cells, h2⟩ := h (fun i => M i ∨ M' i) w2 (fun i hi => hi.elim (hM i) (fun h => Nat.lt_of_lt_of_le (hM' i h) hb)) ((hk.mono (fun i h => .inl h)).trans (hk'.mono (fun i h => .inr h)))
  exact ⟨h1, cells, h2.lower hb⟩
theorem OutAt.snoc {w0 w w1 : World} {m : Nat} {v v1 : Value} {outs : List Piece} {cells : List Value} {t : Int} {body : List Int} {B : Option Addr} (ho : w.ownsRow w0.heap.size 69 2 v outs.length cells)
    (hb : ∀ j t body, outs[j]? = some (t, body) → ∃ B, cells[j * 2]? = some (.int .u16 t) ∧ cells[j * 2 + 1]? = some (.slice B body.length body.length) ∧ BodyAt w0 w B body)
    (hu : ∀ (i j g n c n' c' : Nat), i ≠ j → cells[i * 2 + 1]? = some (.slice (some ⟨g, 0, none⟩) n c) → cells[j * 2 + 1]? ≠ some (.slice (some ⟨g, 0, none⟩) n' c'))
    (hl : ∀ (i g n c : Nat), cells[i * 2 + 1]? = some (.slice (some ⟨g, 0, none⟩) n c) → g < m) (hm : m ≤ w.heap.size) (hnew : ∀ g, B = some ⟨g, 0, none⟩ → m ≤ g ∧ g < w.heap.size) (hB : BodyAt w0 w B body)
    (ho1 : w1.ownsRow w0.heap.size 69 2 v1 (outs.length + 1) (cells ++ [.int .u16 t, .slice B body.length body.length])) (hk : Keeps (fun i => v.ownBlock = some i) w w1) : OutAt w0 v1 (outs ++ [(t, body)]) w1 := by
  have keep : ∀ {B : Option Addr} {body : List Int}, BodyAt w0 w B body → BodyAt w0 w1 B body := fun ⟨c', h3, h4, h5⟩ => ⟨c', h3, hk.own h4 (own_own_ne ho h4 (by decide)), h5⟩
  have hcl : cells.length = outs.length * 2 := ho.1
  have at1 : ∀ i, i < outs.length → (cells ++ [Value.int .u16 t, .slice B body.length body.length])[i * 2 + 1]? = cells[i * 2 + 1]? := fun i hi => List.getElem?_append_left (by omega)
  have at2 : (cells ++ [Value.int .u16 t, .slice B body.length body.length])[outs.length * 2 + 1]? = some (.slice B body.length body.length) := by
    rw [List.getElem?_append_right (by omega), hcl, show outs.length * 2 + 1 - outs.length * 2 = 1 by omega]; rfl
  have lt : ∀ i u, (cells ++ [Value.int .u16 t, .slice B body.length body.length])[i * 2 + 1]? = some u → i < outs.length ∨ i = outs.length := fun i u hi => by
    have := (List.getElem?_eq_some_iff.1 hi).1
    simp at this; omega
  have newB : ∀ g n c, (cells ++ [Value.int .u16 t, .slice B body.length body.length])[outs.length * 2 + 1]? = some (.slice (some ⟨g, 0, none⟩) n c) → m ≤ g ∧ g < w.heap.size := fun g n c h => by
    rw [at2] at h
    injection h with h
    injection h with h _ _
    exact hnew g h
  refine ⟨_, by simpa using ho1, fun j t' body' hj => ?_, fun i j g n c n' c' hne h1 h2 => ?_, fun i g n c h1 => ?_⟩
  · rcases Nat.lt_or_ge j outs.length with h | h
    · rw [List.getElem?_append_left h] at hj
      obtain ⟨B', h1, h2, h3⟩ := hb j t' body' hj
      exact ⟨B', by rw [List.getElem?_append_left (by omega)]; exact h1, by rw [List.getElem?_append_left (by omega)]; exact h2, keep h3⟩
    · have hj' : j = outs.length := by
        have := (List.getElem?_eq_some_iff.1 hj).1
        simp at this; omega
      subst hj'
      simp only [List.getElem?_append_right (Nat.le_refl _), Nat.sub_self, List.getElem?_cons_zero, Option.some.injEq, Prod.mk.injEq] at hj
      obtain ⟨rfl, rfl⟩ := hj
      refine ⟨B, ?_, at2, keep hB⟩
      rw [List.getElem?_append_right (by omega), hcl, Nat.sub_self]; rfl
  · rcases lt i _ h1 with h3 | h3 <;> rcases lt j _ h2 with h4 | h4
    · rw [at1 i h3] at h1
      rw [at1 j h4] at h2
      exact hu i j g n c n' c' hne h1 h2
    · subst h4
      rw [at1 i h3] at h1
      have := newB g n' c' h2
      have := hl i g n c h1
      omega
    · subst h3
      rw [at1 j h4] at h2
      have := newB g n c h1
      have := hl j g n' c' h2
      omega
    · omega
  · rcases lt i _ h1 with h3 | h3
    · rw [at1 i h3] at h1
      have := hl i g n c h1
      have := hk.size
      omega
    · subst h3
      have := newB g n c h1
      have := hk.size
      omega
theorem OutAt.ps {w0 w : World} {outs : List Piece} {A : Option Addr} {n c : Nat} (h : OutAt w0 (.slice A n c) outs w) (hn : outs.length = n) (h16 : n ≤ 16) (hok : ∀ p ∈ outs, okPiece p) (hlen : ∀ p ∈ outs, p.2.length ≤ 2048) : Ps w A n outs := by
  obtain ⟨cells, ho, hb, _⟩ := h
  refine ⟨hn, by omega, fun h0 => ?_⟩
  rcases ho.2 with ⟨e, _⟩ | ⟨g, cap, cur, e, _, hh, _⟩
  · injection e with _ e _; omega
  · injection e with e _ _
    subst e
    refine ⟨g, 0, rfl, (Array.getElem?_eq_some_iff.1 hh).1, fun j hj => ?_⟩
    have hj' : j < outs.length := by omega
    obtain ⟨p, hp⟩ : ∃ p, outs[j] = p := ⟨_, rfl⟩
    obtain ⟨t, body⟩ := p
    have hjj : outs[j]? = some (t, body) := by rw [List.getElem?_eq_getElem hj', hp]
    have hm : (t, body) ∈ outs := List.mem_of_getElem? hjj
    obtain ⟨B, h1, h2, c', h3, h4, h5⟩ := hb j t body hjj
    have hk := hok _ hm
    have hl := hlen _ hm
    obtain ⟨A1, c1, e1, hr, _, _, _⟩ := own_rd h4 hk.2.2 (by simp at hl; omega)
    injection e1 with e1 _ _
    subst e1
    refine ⟨t, body, B, body.length, body.length, hjj, ⟨hk.1, hk.2.1⟩, ?_, ?_, hr, Nat.le_refl _, h5⟩
    · have := ho.cells (g := g) rfl (j * 2) _ h1
      have ha : (⟨g, 0, none⟩ : Addr).add (j * 2) = ⟨g, j * 2, none⟩ := by unfold Addr.add; split <;> simp_all
      rw [ha] at this
      rw [Nat.zero_add]; exact this
    · have := ho.cells (g := g) rfl (j * 2 + 1) _ h2
      have ha : (⟨g, 0, none⟩ : Addr).add (j * 2 + 1) = ⟨g, j * 2 + 1, none⟩ := by unfold Addr.add; split <;> simp_all
      rw [ha] at this
      rw [Nat.zero_add]; exact this
theorem info_param : (Tryz.prog.info? 69).map (fun i => (i.zero, i.size, i.bytes)) = some (some (.agg #[.int .u16 0, .slice none 0 0]), 2, 32) := by kernel_rfl

theorem own_mono {w : World} {b1 b2 n size : Nat} {e : TypeId} {v : Value} {xs : List Value} (h : w.ownsRow b2 e size v n xs) (hb : b1 ≤ b2) : w.ownsRow b1 e size v n xs := by
  refine ⟨h.1, ?_⟩
  rcases h.2 with h | ⟨g, cap, cur, h1, h2, h3⟩
  · exact .inl h
  · exact .inr ⟨g, cap, cur, h1, Nat.le_trans hb h2, h3⟩
theorem below_drewN {B : Nat} {w w' : World} (h : Below B w w') (n : Nat) : Below B w (w'.drewN n) := ⟨h.os, h.tape, h.output, h.size, h.block⟩
theorem Rd.drewN {w : World} {k : IntKind} {A : Option Addr} {n : Nat} {xs : List Int} (h : Rd w k A n xs) (m : Nat) : Rd (w.drewN m) k A n xs := h.below (below_drewN (Below.refl _ _) m)
theorem OutAt.drewN {w0 w : World} {v : Value} {outs : List Piece} (h : OutAt w0 v outs w) (m : Nat) : OutAt w0 v outs (w.drewN m) := h.below (below_drewN (Below.refl _ _) m)
theorem frame_of (a : Act) (n : Nat) (hs : a.tmps.size = n) (hd : a.defers = []) : a = { tmps := ((List.range n).map (fun i => a.tmps.getD i undef)).toArray, defers := [] } := by
  obtain ⟨t, d⟩ := a
  simp only at hs hd
  subst hd
  congr 1
  apply Array.ext
  · simp [hs]
  · intro i h1 h2
    simp [h1]
theorem frame75 (u : Nat → Value) : ((List.range 75).map u).toArray = #[u 0, u 1, u 2, u 3, u 4, u 5, u 6, u 7, u 8, u 9, u 10, u 11, u 12, u 13, u 14, u 15, u 16, u 17, u 18, u 19, u 20, u 21, u 22, u 23, u 24, u 25, u 26, u 27, u 28, u 29, u 30, u 31, u 32, u 33, u 34, u 35, u 36, u 37, u 38, u 39, u 40, u 41, u 42, u 43, u 44, u 45, u 46, u 47, u 48, u 49, u 50, u 51, u 52, u 53, u 54, u 55, u 56, u 57, u 58, u 59, u 60, u 61, u 62, u 63, u 64, u 65, u 66, u 67, u 68, u 69, u 70, u 71, u 72, u 73, u 74] := rfl
/-- What Get hands back. -/
def GetRes (w : World) (R : Int × List Piece) (e : Ending) (w' : World) : Prop :=
  (R.1 ≠ 0 ∧ e = .returned (.tuple #[.slice none 0 0, .int .i64 R.1]) ∧ Below w.heap.size w w') ∨
  ∃ A, R.1 = 0 ∧ e = .returned (.tuple #[.slice A R.2.length R.2.length, .int .i64 0]) ∧ PsKeep w.heap.size w' A R.2.length R.2 ∧ (A = none → R.2.length = 0) ∧ Below w.heap.size w w'
/-- What holds at the label. -/
structure GetAt (w0 : World) (R : Int × List Piece) (A : Option Addr) (n c : Nat) (v : Value) (last : Int) (w : World) : Prop where
  at_ : ∃ (rest : List Int) (outs : List Piece) (f : Nat), Rd w0 .u8 A n rest ∧ n ≤ c ∧ (A = none → c = 0) ∧ n < f ∧ n ≤ 2048 ∧ getGo f last outs rest = R ∧ OutAt w0 v outs w ∧ Below w0.heap.size w0 w ∧ 0 ≤ last ∧ last ≤ 65535 ∧ outs.length ≤ 16 ∧ (∀ p ∈ outs, okPiece p) ∧ (∀ p ∈ outs, p.2.length ≤ 2048)
def lenOf0 (v : Value) : Nat := match v with | .slice _ n _ => n | _ => 0

end Go.Proofs.YtgecfcdafbedaaaGreat

namespace Go.Proofs.YtgecfcdafbedaaaGreat
open Go.RowKit
set_option linter.unusedSimpArgs false
set_option linter.unusedVariables false

theorem four_any (A : Option Addr) (n c : Nat) (bs : List Int) (v : Int) (w : World) (r : Rd w .u8 A n bs) (l : n ≤ c) (h4 : 4 ≤ n) (hv : told (bs.take 4) = v) (h0 : 0 ≤ v) (h1 : v ≤ 4294967295) :
    Calls Tryz.prog 43 #[.slice A n c] w fun e w' => e = .returned (.int .u32 v) ∧ Below w.heap.size w w' := by
  have hg := get_any A n c bs 4 w r l
  have e1 : getE n 4 = 0 := by unfold getE; rw [if_neg (by omega), if_neg (by omega)]
  have e2 : getN bs n 4 = v := by unfold getN; rw [if_pos e1]; exact hv
  rw [e1, e2] at hg
  have hw : IntKind.u32.wrap v = v := IntWalk.u32_in _ (by omega)
  clear e1 e2 hv
  go_enter Tryz.func43, Tryz.ntmps43
  go_wp2_with fail
  refine hg.mono ?_; rintro e w1 ⟨rfl, hB⟩
  go_wp2_with fail
  go_ret
  exact ⟨rfl, hB⟩

theorem exact_any (A : Option Addr) (c : Nat) (bs : List Int) (v : Int) (w : World) (r : Rd w .u8 A 4 bs) (l : 4 ≤ c) (hv : told (bs.take 4) = v) (h0 : 0 ≤ v) (h1 : v ≤ 4294967295) :
    Calls Tryz.prog 53 #[.slice A 4 c, .int .i64 4, .func (.func 43) #[] #[], .slice none 0 0] w fun e w' => e = .returned (.tuple #[.int .u32 v, .int .i64 0]) ∧ Below w.heap.size w w' := by
  have hf := four_any A 4 c bs v w r l (Nat.le_refl _) hv h0 h1
  clear hv
  go_enter Tryz.func53, Tryz.ntmps53
  go_wp2_with fail
  refine wp_loop_rounds 1 ?_
  rw [rounds_succ]
  go_wp2_with fail
  refine hf.mono ?_; rintro e w1 ⟨rfl, hB⟩
  go_wp2_with fail
  go_ret2
  exact ⟨rfl, hB⟩

theorem count_any (A : Option Addr) (c : Nat) (bs : List Int) (v : Int) (w : World) (r : Rd w .u8 A 4 bs) (l : 4 ≤ c) (hv : told (bs.take 4) = v) (h0 : 0 ≤ v) (h1 : v ≤ 4294967295) :
    Calls Tryz.prog 14 #[.slice A 4 c] w fun e w' => e = .returned (.tuple #[.int .u32 v, .int .i64 0]) ∧ Below w.heap.size w w' := by
  have hf := exact_any A c bs v w r l hv h0 h1
  clear hv
  go_enter Tryz.func14, Tryz.ntmps14
  go_wp2_with fail
  refine hf.mono ?_; rintro e w1 ⟨rfl, hB⟩
  go_wp2_with fail
  go_ret2
  exact ⟨rfl, hB⟩

theorem clipS_all (A0 : Option Addr) (n0 c0 : Nat) (w : World) (l0 : n0 ≤ c0) :
    Calls Tryz.prog 45 #[.slice A0 n0 c0] w fun e w' => e = .returned (.slice A0 n0 n0) ∧ w = w' := by
  have hs : ∀ W : World, (Instr.slice 24 (.slice A0 n0 c0) none (some (.int .i64 (n0 : Int))) (some (.int .i64 (n0 : Int)))).run Tryz.prog W = .ok (.slice A0 n0 n0) W := fun W => by
    rw [run_slice_hm W 24 A0 n0 c0 (by kernel_rfl) .i64 .i64 (n0 : Int) (n0 : Int) (by omega) (by omega) (by omega), show (sizeOf (Tryz.prog.elem 24)).run Tryz.prog W = .ok 1 W from by kernel_rfl]
    simp only [Result.andThen, sliced]
    have h0 : ∀ ad : Addr, ad.add 0 = ad := fun ad => by cases ad; unfold Addr.add; split <;> simp_all
    cases A0 with
    | none => simp
    | some ad => simp [h0]
  go_enter Tryz.func45, Tryz.ntmps45
  go_wp2_with fail
  go_ret
  exact ⟨rfl, rfl⟩

/-- Two spots somewhere. -/
def TwoIn (w : World) (b off : Nat) (x y : Int) : Prop := b < w.heap.size ∧ w.cell? ⟨b, off, none⟩ = some (.int .u32 x) ∧ w.cell? ⟨b, off + 1, none⟩ = some (.int .u32 y)
theorem TwoIn.below {w w' : World} {b off : Nat} {x y : Int} (h : TwoIn w b off x y) (hB : Below w.heap.size w w') : TwoIn w' b off x y :=
  ⟨Nat.lt_of_lt_of_le h.1 hB.size, (hB.cell (p := ⟨b, off, none⟩) h.1).trans h.2.1, (hB.cell (p := ⟨b, off + 1, none⟩) h.1).trans h.2.2⟩

set_option maxRecDepth 100000 in
set_option maxHeartbeats 2000000 in
theorem putspots_79 (b off cap : Nat) (w : World) (h : TwoIn w b off 7 9) :
    Calls Tryz.prog 22 #[.slice (some ⟨b, off, none⟩) 2 cap] w fun e w' => ∃ g, e = .returned (.tuple #[.slice (some ⟨g, 0, none⟩) 9 9, .int .i64 0]) ∧ Rd w' .u8 (some ⟨g, 0, none⟩) 9 [2, 0, 0, 0, 7, 0, 0, 0, 9] ∧ Below w.heap.size w w' := by
  have hn := new_below w (.cells #[.slice (some ⟨b, off, none⟩) 2 cap] 24)
  have h1 := h.below hn
  have hsort := sorted_two w.heap.size (w.heap.size + 1) b off cap 7 9 (w.alloc (.cells #[.slice (some ⟨b, off, none⟩) 2 cap] 24)) (by simp) (by simp) (by have := h.1; omega) (by simp) h1.2.1 h1.2.2 (by omega)
  have HS := Lib.hid hsort
  have HN := Lib.hid hn
  have H0 := Lib.hid h
  clear hsort hn h h1
  go_enter Tryz.func22, Tryz.ntmps22
  go_wp2_with (first | (go_at_call 61; refine (val_any _ _ _ _).mono ?_; rintro e w' ⟨rfl, rfl⟩))
  refine HS.out.mono ?_; rintro e w2 ⟨g, cap2, rfl, h2, ⟨t0, t1, t2, t3, t4⟩, hB2⟩
  have HB2 : Hid (Below w.heap.size w w2) := Lib.hid (HN.out.trans (hB2.mono (Nat.le_succ _)))
  have T0 := Lib.hid t0
  have T3 := Lib.hid t3
  clear hB2 t0 t3 t4 HN
  go_wp2_with fail
  refine (compact_less g cap2 7 9 _ t2 T3.out (by omega)).mono ?_; rintro e w3 ⟨rfl, hB3⟩
  have HB3 : Hid (Below w.heap.size w w3) := Lib.hid (HB2.out.trans (hB3.mono HB2.out.size))
  have HB4 : Hid (Below w.heap.size w (w3.alloc (.cells #[.int .u8 2] 5))) := Lib.hid (HB3.out.alloc HB3.out.size _)
  obtain ⟨hb4, hx4, hy4⟩ := H0.out.below HB4.out
  have HR4 : Hid (Rd (w3.alloc (.cells #[.int .u8 2] 5)) .u8 (some ⟨w3.heap.size, 0, none⟩) 1 [2]) := Lib.hid (rd_lit w3 [2] 1 (by intro x hx; simp at hx; omega) rfl (by omega))
  clear hB3 t1 t2 h2
  have e4 : putMany 4 = 4 := by decide
  have b7 : [2] ++ be 7 4 = [2, 0, 0, 0, 7] := by decide
  have b9 : [2, 0, 0, 0, 7] ++ be 9 4 = [2, 0, 0, 0, 7, 0, 0, 0, 9] := by decide
  have hput1 := put_any (some ⟨w3.heap.size, 0, none⟩) 1 1 [2] 7 4 _ HR4.out (Nat.le_refl _) (by omega) (by omega)
  rw [e4, b7] at hput1
  have HP1 := Lib.hid hput1
  have E4 := Lib.hid e4
  have B9 := Lib.hid b9
  clear hput1 b7 e4 b9
  go_wp2_with fail
  refine wp_loop_rounds 3 ?_
  rw [rounds_succ]
  go_wp2_with fail
  refine HP1.out.mono ?_; rintro e w5 ⟨g5, hg5, rfl, hk5, hB5⟩
  have HB5 : Hid (Below w.heap.size w w5) := Lib.hid (HB4.out.trans (hB5.mono HB4.out.size))
  obtain ⟨hb5, hx5, hy5⟩ := H0.out.below HB5.out
  have hr5 : Rd w5 .u8 (some ⟨g5, 0, none⟩) 5 [2, 0, 0, 0, 7] := rd_of_blk hk5 (by intro x hx; simp at hx; omega) rfl (by omega)
  have hput2 := put_any (some ⟨g5, 0, none⟩) 5 5 [2, 0, 0, 0, 7] 9 4 _ hr5 (Nat.le_refl _) (by omega) (by omega)
  rw [E4.out, B9.out] at hput2
  have HP2 := Lib.hid hput2
  clear hput2 hr5 hk5 hB5 hg5 hx4 hy4 hb4
  go_wp2_with fail
  rw [rounds_succ]
  go_wp2_with fail
  refine HP2.out.mono ?_; rintro e w6 ⟨g6, hg6, rfl, hk6, hB6⟩
  have HB6 : Hid (Below w.heap.size w w6) := Lib.hid (HB5.out.trans (hB6.mono HB5.out.size))
  have HR6 : Hid (Rd w6 .u8 (some ⟨g6, 0, none⟩) 9 [2, 0, 0, 0, 7, 0, 0, 0, 9]) := Lib.hid (rd_of_blk hk6 (by intro x hx; simp at hx; omega) rfl (by omega))
  clear hk6 hB6 hg6 hx5 hy5 hb5
  go_wp2_with fail
  rw [rounds_succ]
  go_wp2_with fail
  refine (clip_all (some ⟨g6, 0, none⟩) 9 9 w6 (Nat.le_refl _)).mono ?_; rintro e w7 ⟨rfl, rfl⟩
  go_wp2_with fail
  go_ret2
  exact ⟨g6, rfl, HR6.out, HB6.out⟩

set_option maxRecDepth 100000 in
set_option maxHeartbeats 2000000 in
theorem putspots_77 (b off cap : Nat) (w : World) (h : TwoIn w b off 7 7) :
    Calls Tryz.prog 22 #[.slice (some ⟨b, off, none⟩) 2 cap] w fun e w' => e = .returned (.tuple #[.slice none 0 0, .int .i64 1]) ∧ Below w.heap.size w w' := by
  have hn := new_below w (.cells #[.slice (some ⟨b, off, none⟩) 2 cap] 24)
  have h1 := h.below hn
  have hsort := sorted_two w.heap.size (w.heap.size + 1) b off cap 7 7 (w.alloc (.cells #[.slice (some ⟨b, off, none⟩) 2 cap] 24)) (by simp) (by simp) (by have := h.1; omega) (by simp) h1.2.1 h1.2.2 (by omega)
  have HS := Lib.hid hsort
  have HN := Lib.hid hn
  have H0 := Lib.hid h
  clear hsort hn h h1
  go_enter Tryz.func22, Tryz.ntmps22
  go_wp2_with (first | (go_at_call 61; refine (val_any _ _ _ _).mono ?_; rintro e w' ⟨rfl, rfl⟩))
  refine HS.out.mono ?_; rintro e w2 ⟨g, cap2, rfl, h2, ⟨t0, t1, t2, t3, t4⟩, hB2⟩
  have HB2 : Hid (Below w.heap.size w w2) := Lib.hid (HN.out.trans (hB2.mono (Nat.le_succ _)))
  have HT : Hid (TwoAt (w.heap.size + 1) w2 g 7 7) := Lib.hid ⟨t0, t1, t2, t3, t4⟩
  have HZ : Hid (w.heap.size + 1 ≤ w2.heap.size) := Lib.hid (by have := hB2.size; simpa using this)
  clear hB2 t0 t3 t4 HN
  go_wp2_with fail
  refine (compact_same (w.heap.size + 1) g cap2 7 _ h2 HT.out HZ.out).mono ?_; rintro e w3 ⟨rfl, hB3⟩
  have HB3 : Hid (Below w.heap.size w w3) := Lib.hid (HB2.out.trans (hB3.mono (Nat.le_succ _)))
  clear hB3 t1 t2 h2
  go_wp2_with fail
  go_ret2
  exact ⟨rfl, HB3.out⟩

/-- What append makes of a row of the call's own lies above the first block. -/
theorem below_own {w W w1 : World} {e : TypeId} {size n : Nat} {v : Value} {xs : List Value} (hB : Below w.heap.size w W) (hk : Keeps (fun i => v.ownBlock = some i) W w1) (ho : W.ownsRow w.heap.size e size v n xs) : Below w.heap.size w w1 :=
  below_keeps hB hk (Nat.le_refl _) (fun i hi => (own_base ho i hi).1)

set_option maxRecDepth 100000 in
set_option maxHeartbeats 4000000 in
theorem getspots_79 (g : Nat) (w : World) (r : Rd w .u8 (some ⟨g, 0, none⟩) 9 [2, 0, 0, 0, 7, 0, 0, 0, 9]) :
    Calls Tryz.prog 7 #[.slice (some ⟨g, 0, none⟩) 9 9] w fun e w' => ∃ g', e = .returned (.tuple #[.slice (some ⟨g', 0, none⟩) 2 2, .int .i64 0]) ∧ TwoIn w' g' 0 7 9 ∧ Below w.heap.size w w' := by
  obtain ⟨b, off, eb, hgl, hc⟩ := r.row (by omega)
  injection eb with eb
  injection eb with e1 e2
  subst e1 e2
  have hc0 := hc 0 (by omega)
  simp only [Nat.zero_add, List.getElem?_cons_zero, Option.getD_some] at hc0
  have s1 : ∀ W : World, (Instr.slice 22 (.slice (some ⟨g, 0, none⟩) 9 9) (some (.int .i64 1)) none none).run Tryz.prog W = .ok (.slice (some ⟨g, 1, none⟩) 8 8) W := fun W => by kernel_rfl
  have s5 : ∀ W : World, (Instr.slice 22 (.slice (some ⟨g, 0, none⟩) 9 9) (some (.int .i64 5)) none none).run Tryz.prog W = .ok (.slice (some ⟨g, 5, none⟩) 4 4) W := fun W => by kernel_rfl
  have hf1 := four_any (some ⟨g, 0 + 1, none⟩) 8 8 _ 7 w (r.sub 1 8 (by omega)) (Nat.le_refl _) (by omega) (by decide) (by omega) (by omega)
  have HR := Lib.hid r
  have HF1 := Lib.hid hf1
  clear r hf1 hc
  go_enter Tryz.func7, Tryz.ntmps7
  go_wp2_with fail
  refine wp_loop_rounds 3 ?_
  rw [rounds_succ]
  go_wp2_with fail
  refine HF1.out.mono ?_; rintro e w1 ⟨rfl, hB1⟩
  have HB1 := Lib.hid hB1
  clear hB1
  go_wp2_with (at_builtin; refine append_int (W := w1) w.heap.size rfl _ _ 24 73 .u32 4 rfl Tryz.underlying24 info_spot (by omega) (.slice none 0 0) 0 [] 7 rfl rfl (own_nil _ _ _ _) HB1.out.size (by omega) ?_; intro v2 w2 ho2 hk2 _)
  have HB2 := Lib.hid (below_own HB1.out hk2 (own_nil _ _ 73 1))
  have HO2 := Lib.hid ho2
  have hf2 := four_any (some ⟨g, 0 + 5, none⟩) 4 4 _ 9 w2 ((HR.out.below HB2.out).sub 5 4 (by omega)) (Nat.le_refl _) (by omega) (by decide) (by omega) (by omega)
  have HF2 := Lib.hid hf2
  obtain ⟨A2, c2, rfl, hc2, _⟩ := own_slice ho2
  clear hf2 ho2 hk2
  go_wp2_with fail
  rw [rounds_succ]
  go_wp2_with fail
  refine HF2.out.mono ?_; rintro e w3 ⟨rfl, hB3⟩
  have HO3 := Lib.hid ((Keeps.of_below (M := fun _ => False) hB3).own HO2.out (fun _ _ hf => hf))
  have HB3 := Lib.hid (HB2.out.trans (hB3.mono HB2.out.size))
  clear hB3
  go_wp2_with (at_builtin; refine append_int (W := w3) w.heap.size rfl _ _ 24 73 .u32 4 rfl Tryz.underlying24 info_spot (by omega) (.slice A2 1 c2) 1 [7] 9 rfl rfl HO3.out HB3.out.size (by omega) ?_; intro v4 w4 ho4 hk4 _)
  have HB4 := Lib.hid (below_own HB3.out hk4 HO3.out)
  obtain ⟨g4, cap4, rfl, hc4, ⟨t0, t1, t2, t3, t4⟩⟩ := two_of_row (by simpa using ho4)
  have HT4 : Hid (TwoIn w4 g4 0 7 9) := Lib.hid ⟨t1, t2, t3⟩
  clear ho4 hk4 t0 t1 t2 t3 t4
  go_wp2_with fail
  rw [rounds_succ]
  go_wp2_with fail
  refine (putspots_79 g4 0 cap4 w4 HT4.out).mono ?_; rintro e w5 ⟨g5, rfl, hr5, hB5⟩
  have HT5 := Lib.hid (HT4.out.below hB5)
  have HB5 := Lib.hid (HB4.out.trans (hB5.mono HB4.out.size))
  clear hr5 hB5
  go_wp2_with fail
  refine (clipS_all (some ⟨g4, 0, none⟩) 2 cap4 w5 hc4).mono ?_; rintro e w6 ⟨rfl, rfl⟩
  go_wp2_with fail
  go_ret2
  exact ⟨g4, rfl, HT5.out, HB5.out⟩

set_option maxRecDepth 100000 in
set_option maxHeartbeats 1000000 in
theorem samespots_79 (a b ca cb : Nat) (w : World) (ha : TwoIn w a 0 7 9) (hb : TwoIn w b 0 7 9) :
    Calls Tryz.prog 9 #[.slice (some ⟨a, 0, none⟩) 2 ca, .slice (some ⟨b, 0, none⟩) 2 cb] w fun e w' => e = .returned (.bool true) ∧ Below w.heap.size w w' := by
  obtain ⟨_, a0, a1⟩ := ha
  obtain ⟨_, b0, b1⟩ := hb
  go_enter Tryz.func9, Tryz.ntmps9
  go_wp2_with fail
  refine wp_loop_rounds 3 ?_
  rw [rounds_succ]
  go_wp2_with fail
  go_region_held3 (fun w' => w'.cell? ⟨a, 0, none⟩ = some (.int .u32 7) ∧ w'.cell? ⟨b, 0, none⟩ = some (.int .u32 7))
    (((try dsimp only); refine ⟨?_, ?_⟩ <;> (first | assumption | (go_keep; done))))
    (fail)
  have a1' : w.drew.cell? ⟨a, 0 + 1, none⟩ = some (.int .u32 9) := a1
  have b1' : w.drew.cell? ⟨b, 0 + 1, none⟩ = some (.int .u32 9) := b1
  simp only [Nat.zero_add] at a1' b1'
  go_wp2_with fail
  rw [rounds_succ]
  go_wp2_with fail
  go_region_held3 (fun w' => w'.cell? ⟨a, 1, none⟩ = some (.int .u32 9) ∧ w'.cell? ⟨b, 1, none⟩ = some (.int .u32 9))
    (((try dsimp only); refine ⟨?_, ?_⟩ <;> (first | assumption | (go_keep; done))))
    (fail)
  go_wp2_with fail
  rw [rounds_succ]
  go_wp2_with fail
  go_ret
  exact ⟨rfl, (drew_below w).trans (drew_below w.drew)⟩
end Go.Proofs.YtgecfcdafbedaaaGreat
