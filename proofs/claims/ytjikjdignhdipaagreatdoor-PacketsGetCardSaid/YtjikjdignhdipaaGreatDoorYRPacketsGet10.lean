/- What holds while params.Get works; The walk over the document's behind: bytes, and others behind them; The walks over the document's Row and Put. -/
import Derived.Test.YtjikjdignhdipaaGreatDoorYRPacketsGet8
import Derived.Test.YtjikjdignhdipaaGreatDoorYRPacketsGet9
import Derived.Test.YtjikjdignhdipaaGreatDoorYRPacketsGet6
namespace Go.Proofs.YtjikjdignhdipaaGreatDoor
open Go.RowKit
set_option linter.unusedSimpArgs false
set_option linter.unusedVariables false

theorem slice_clipP (W : World) (A : Option Addr) (len c m : Nat) (h : m ≤ c) : (Instr.slice 25 (.slice A len c) none (some (.int .i64 (m : Int))) (some (.int .i64 (m : Int)))).run Tryz.prog W = .ok (.slice A m m) W := by
  rw [run_slice_hm W 25 A len c (by kernel_rfl) .i64 .i64 (m : Int) (m : Int) (by omega) (by omega) (by omega), show (sizeOf (Tryz.prog.elem 25)).run Tryz.prog W = .ok 2 W from by kernel_rfl]
  simp only [Result.andThen, sliced]
  have h0 : ∀ ad : Addr, ad.add 0 = ad := fun ad => by cases ad; unfold Addr.add; split <;> simp_all
  cases A with
  | none => simp
  | some ad => simp [h0]
theorem clipP_all (A0 : Option Addr) (n0 c0 : Nat) (w : World) (l0 : n0 ≤ c0) :
    Calls Tryz.prog 132 #[.slice A0 n0 c0] w fun e w' => e = .returned (.slice A0 n0 n0) ∧ w = w' := by
  have hs := fun W => slice_clipP W A0 n0 c0 n0 l0
  go_enter Tryz.func132, Tryz.ntmps132
  go_wp2_with fail
  go_ret
  exact ⟨rfl, rfl⟩
theorem own_own_ne {w : World} {b1 b2 : Nat} {e1 e2 : TypeId} {s1 s2 n1 n2 : Nat} {v1 v2 : Value} {x1 x2 : List Value} (h1 : w.ownsRow b1 e1 s1 v1 n1 x1) (h2 : w.ownsRow b2 e2 s2 v2 n2 x2) (hne : e1 ≠ e2) : ∀ k, v2.ownBlock = some k → ¬ (v1.ownBlock = some k) := fun k hk hk1 => by
  rcases h1.2 with ⟨rfl, _⟩ | ⟨g1, c1, cur1, rfl, _, hh1, _⟩
  · simp [Value.ownBlock] at hk1
  · rcases h2.2 with ⟨rfl, _⟩ | ⟨g2, c2, cur2, rfl, _, hh2, _⟩
    · simp [Value.ownBlock] at hk
    · have e1 : g1 = k := by simpa [Value.ownBlock] using hk1
      have e2 : g2 = k := by simpa [Value.ownBlock] using hk
      subst e1 e2
      rw [hh1] at hh2
      injection hh2 with hh2
      injection hh2 with _ ht
      exact hne ht
/-- A body of a piece that Get made. -/
def BodyAt (w0 w : World) (B : Option Addr) (body : List Int) : Prop := ∃ c', body.length ≤ c' ∧ w.ownsRow w0.heap.size 5 1 (.slice B body.length c') body.length (body.map (Value.int .u8)) ∧ (B = none → body.length = 0)
/-- The pieces so far. -/
def OutAt (w0 : World) (v : Value) (outs : List Piece) (w : World) : Prop :=
  ∃ cells, w.ownsRow w0.heap.size 82 2 v outs.length cells ∧ (∀ j t body, outs[j]? = some (t, body) → ∃ B, cells[j * 2]? = some (.int .u16 t) ∧ cells[j * 2 + 1]? = some (.slice B body.length body.length) ∧ BodyAt w0 w B body) ∧
    (∀ (i j g n c n' c' : Nat), i ≠ j → cells[i * 2 + 1]? = some (.slice (some ⟨g, 0, none⟩) n c) → cells[j * 2 + 1]? ≠ some (.slice (some ⟨g, 0, none⟩) n' c')) ∧ ∀ (i g n c : Nat), cells[i * 2 + 1]? = some (.slice (some ⟨g, 0, none⟩) n c) → g < w.heap.size
theorem OutAt.below {w0 w w' : World} {v : Value} {outs : List Piece} (h : OutAt w0 v outs w) (hB : Below w.heap.size w w') : OutAt w0 v outs w' := by
  obtain ⟨cells, ho, hb, hu, hl⟩ := h
  have keep : ∀ {e : TypeId} {size n : Nat} {v : Value} {xs : List Value}, w.ownsRow w0.heap.size e size v n xs → w'.ownsRow w0.heap.size e size v n xs := fun h => (Keeps.of_below (M := fun _ => False) hB).own h (fun _ _ hf => hf)
  refine ⟨cells, keep ho, fun j t body hj => ?_, hu, fun i g n c hi => Nat.lt_of_lt_of_le (hl i g n c hi) hB.size⟩
  obtain ⟨B, h1, h2, c', h3, h4, h5⟩ := hb j t body hj
  exact ⟨B, h1, h2, c', h3, keep h4, h5⟩
theorem OutAt.keepM {w0 w w' : World} {v : Value} {outs : List Piece} {M : Nat → Prop} (h : OutAt w0 v outs w) (hk : Keeps M w w') (hM : ∀ i, M i → i < w0.heap.size) : OutAt w0 v outs w' := by
  obtain ⟨cells, ho, hb, hu, hl⟩ := h
  have keep : ∀ {e : TypeId} {size n : Nat} {v : Value} {xs : List Value}, w.ownsRow w0.heap.size e size v n xs → w'.ownsRow w0.heap.size e size v n xs := fun h => hk.own h (fun k hk hm => by
    have h1 := (own_base h k hk).1
    have h2 := hM k hm
    omega)
  refine ⟨cells, keep ho, fun j t body hj => ?_, hu, fun i g n c hi => Nat.lt_of_lt_of_le (hl i g n c hi) hk.size⟩
  obtain ⟨B, h1, h2, c', h3, h4, h5⟩ := hb j t body hj
  exact ⟨B, h1, h2, c', h3, keep h4, h5⟩
/-- The pieces are the call's own. -/
theorem OutAt.own {w0 w : World} {outs : List Piece} {A : Option Addr} {n c : Nat} (h : OutAt w0 (.slice A n c) outs w) (hn : outs.length = n) : ∃ cells, PsOwn w0.heap.size w (.slice A n n) outs cells := by
  obtain ⟨cells, ho, hb, hu, _⟩ := h
  subst hn
  have hnc : outs.length ≤ c := by
    obtain ⟨A', c', e, h, _⟩ := own_slice ho
    injection e with _ _ e
    omega
  refine ⟨cells, ⟨A, outs.length, c, rfl, Nat.le_refl _, hnc, ho⟩, fun j t body hj => ?_, hu⟩
  obtain ⟨B, h1, h2, c', h3, h4, _⟩ := hb j t body hj
  exact ⟨B, body.length, h1, h2, B, body.length, c', rfl, Nat.le_refl _, h3, h4⟩
/-- Pieces that stay whatever is done with what was there before. -/
def PsKeep (base : Nat) (w : World) (A : Option Addr) (n : Nat) (ps : List Piece) : Prop := ∀ (M : Nat → Prop) (w2 : World), (∀ i, M i → i < base) → Keeps M w w2 → Ps w2 A n ps ∧ ∃ cells, PsOwn base w2 (.slice A n n) ps cells
theorem PsKeep.ps {base : Nat} {w : World} {A : Option Addr} {n : Nat} {ps : List Piece} (h : PsKeep base w A n ps) : Ps w A n ps := (h (fun _ => False) w (fun _ h => h.elim) (Keeps.refl _ _)).1
theorem PsKeep.own {base : Nat} {w : World} {A : Option Addr} {n : Nat} {ps : List Piece} (h : PsKeep base w A n ps) : ∃ cells, PsOwn base w (.slice A n n) ps cells := (h (fun _ => False) w (fun _ h => h.elim) (Keeps.refl _ _)).2
theorem PsKeep.step {base base' : Nat} {w w' : World} {A : Option Addr} {n : Nat} {ps : List Piece} {M : Nat → Prop} (h : PsKeep base w A n ps) (hk : Keeps M w w') (hM : ∀ i, M i → i < base) (hb : base' ≤ base) : PsKeep base' w' A n ps := fun M' w2 hM' hk' => by
  obtain ⟨h1, cells, h2⟩ := h (fun i => M i ∨ M' i) w2 (fun i hi => hi.elim (hM i) (fun h => Nat.lt_of_lt_of_le (hM' i h) hb)) ((hk.mono (fun i h => .inl h)).trans (hk'.mono (fun i h => .inr h)))
  exact ⟨h1, cells, h2.lower hb⟩
theorem OutAt.snoc {w0 w w1 : World} {m : Nat} {v v1 : Value} {outs : List Piece} {cells : List Value} {t : Int} {body : List Int} {B : Option Addr} (ho : w.ownsRow w0.heap.size 82 2 v outs.length cells)
    (hb : ∀ j t body, outs[j]? = some (t, body) → ∃ B, cells[j * 2]? = some (.int .u16 t) ∧ cells[j * 2 + 1]? = some (.slice B body.length body.length) ∧ BodyAt w0 w B body)
    (hu : ∀ (i j g n c n' c' : Nat), i ≠ j → cells[i * 2 + 1]? = some (.slice (some ⟨g, 0, none⟩) n c) → cells[j * 2 + 1]? ≠ some (.slice (some ⟨g, 0, none⟩) n' c'))
    (hl : ∀ (i g n c : Nat), cells[i * 2 + 1]? = some (.slice (some ⟨g, 0, none⟩) n c) → g < m) (hm : m ≤ w.heap.size) (hnew : ∀ g, B = some ⟨g, 0, none⟩ → m ≤ g ∧ g < w.heap.size) (hB : BodyAt w0 w B body)
    (ho1 : w1.ownsRow w0.heap.size 82 2 v1 (outs.length + 1) (cells ++ [.int .u16 t, .slice B body.length body.length])) (hk : Keeps (fun i => v.ownBlock = some i) w w1) : OutAt w0 v1 (outs ++ [(t, body)]) w1 := by
  have keep : ∀ {B : Option Addr} {body : List Int}, BodyAt w0 w B body → BodyAt w0 w1 B body := fun ⟨c', h3, h4, h5⟩ => ⟨c', h3, hk.own h4 (own_own_ne ho h4 (by decide)), h5⟩
  have hcl : cells.length = outs.length * 2 := ho.1
  have at1 : ∀ i, i < outs.length → (cells ++ [Value.int .u16 t, .slice B body.length body.length])[i * 2 + 1]? = cells[i * 2 + 1]? := fun i hi => List.getElem?_append_left (by omega)
  have at2 : (cells ++ [Value.int .u16 t, .slice B body.length body.length])[outs.length * 2 + 1]? = some (.slice B body.length body.length) := by
    rw [List.getElem?_append_right (by omega), hcl, show outs.length * 2 + 1 - outs.length * 2 = 1 by omega]; rfl
  have lt : ∀ i u, (cells ++ [Value.int .u16 t, .slice B body.length body.length])[i * 2 + 1]? = some u → i < outs.length ∨ i = outs.length := fun i u hi => by
    have := (List.getElem?_eq_some_iff.1 hi).1
    simp at this; omega
  have newB : ∀ g n c, (cells ++ [Value.int .u16 t, .slice B body.length body.length])[outs.length * 2 + 1]? = some (.slice (some ⟨g, 0, none⟩) n c) → m ≤ g ∧ g < w.heap.size := fun g n c h => by
    rw [at2] at h
    injection h with h
    injection h with h _ _
    exact hnew g h
  refine ⟨_, by simpa using ho1, fun j t' body' hj => ?_, fun i j g n c n' c' hne h1 h2 => ?_, fun i g n c h1 => ?_⟩
  · rcases Nat.lt_or_ge j outs.length with h | h
    · rw [List.getElem?_append_left h] at hj
      obtain ⟨B', h1, h2, h3⟩ := hb j t' body' hj
      exact ⟨B', by rw [List.getElem?_append_left (by omega)]; exact h1, by rw [List.getElem?_append_left (by omega)]; exact h2, keep h3⟩
    · have hj' : j = outs.length := by
        have := (List.getElem?_eq_some_iff.1 hj).1
        simp at this; omega
      subst hj'
      simp only [List.getElem?_append_right (Nat.le_refl _), Nat.sub_self, List.getElem?_cons_zero, Option.some.injEq, Prod.mk.injEq] at hj
      obtain ⟨rfl, rfl⟩ := hj
      refine ⟨B, ?_, at2, keep hB⟩
      rw [List.getElem?_append_right (by omega), hcl, Nat.sub_self]; rfl
  · rcases lt i _ h1 with h3 | h3 <;> rcases lt j _ h2 with h4 | h4
    · rw [at1 i h3] at h1
      rw [at1 j h4] at h2
      exact hu i j g n c n' c' hne h1 h2
    · subst h4
      rw [at1 i h3] at h1
      have := newB g n' c' h2
      have := hl i g n c h1
      omega
    · subst h3
      rw [at1 j h4] at h2
      have := newB g n c h1
      have := hl j g n' c' h2
      omega
    · omega
  · rcases lt i _ h1 with h3 | h3
    · rw [at1 i h3] at h1
      have := hl i g n c h1
      have := hk.size
      omega
    · subst h3
      have := newB g n c h1
      have := hk.size
      omega
theorem OutAt.ps {w0 w : World} {outs : List Piece} {A : Option Addr} {n c : Nat} (h : OutAt w0 (.slice A n c) outs w) (hn : outs.length = n) (h16 : n ≤ 16) (hok : ∀ p ∈ outs, okPiece p) (hlen : ∀ p ∈ outs, p.2.length ≤ 2048) : Ps w A n outs := by
  obtain ⟨cells, ho, hb, _⟩ := h
  refine ⟨hn, by omega, fun h0 => ?_⟩
  rcases ho.2 with ⟨e, _⟩ | ⟨g, cap, cur, e, _, hh, _⟩
  · injection e with _ e _; omega
  · injection e with e _ _
    subst e
    refine ⟨g, 0, rfl, (Array.getElem?_eq_some_iff.1 hh).1, fun j hj => ?_⟩
    have hj' : j < outs.length := by omega
    obtain ⟨p, hp⟩ : ∃ p, outs[j] = p := ⟨_, rfl⟩
    obtain ⟨t, body⟩ := p
    have hjj : outs[j]? = some (t, body) := by rw [List.getElem?_eq_getElem hj', hp]
    have hm : (t, body) ∈ outs := List.mem_of_getElem? hjj
    obtain ⟨B, h1, h2, c', h3, h4, h5⟩ := hb j t body hjj
    have hk := hok _ hm
    have hl := hlen _ hm
    obtain ⟨A1, c1, e1, hr, _, _, _⟩ := own_rd h4 hk.2.2 (by simp at hl; omega)
    injection e1 with e1 _ _
    subst e1
    refine ⟨t, body, B, body.length, body.length, hjj, ⟨hk.1, hk.2.1⟩, ?_, ?_, hr, Nat.le_refl _, h5⟩
    · have := ho.cells (g := g) rfl (j * 2) _ h1
      have ha : (⟨g, 0, none⟩ : Addr).add (j * 2) = ⟨g, j * 2, none⟩ := by unfold Addr.add; split <;> simp_all
      rw [ha] at this
      rw [Nat.zero_add]; exact this
    · have := ho.cells (g := g) rfl (j * 2 + 1) _ h2
      have ha : (⟨g, 0, none⟩ : Addr).add (j * 2 + 1) = ⟨g, j * 2 + 1, none⟩ := by unfold Addr.add; split <;> simp_all
      rw [ha] at this
      rw [Nat.zero_add]; exact this
theorem info_param : (Tryz.prog.info? 82).map (fun i => (i.zero, i.size, i.bytes)) = some (some (.agg #[.int .u16 0, .slice none 0 0]), 2, 32) := by kernel_rfl

theorem own_mono {w : World} {b1 b2 n size : Nat} {e : TypeId} {v : Value} {xs : List Value} (h : w.ownsRow b2 e size v n xs) (hb : b1 ≤ b2) : w.ownsRow b1 e size v n xs := by
  refine ⟨h.1, ?_⟩
  rcases h.2 with h | ⟨g, cap, cur, h1, h2, h3⟩
  · exact .inl h
  · exact .inr ⟨g, cap, cur, h1, Nat.le_trans hb h2, h3⟩
theorem below_drewN {B : Nat} {w w' : World} (h : Below B w w') (n : Nat) : Below B w (w'.drewN n) := ⟨h.os, h.tape, h.output, h.size, h.block⟩
theorem Rd.drewN {w : World} {k : IntKind} {A : Option Addr} {n : Nat} {xs : List Int} (h : Rd w k A n xs) (m : Nat) : Rd (w.drewN m) k A n xs := h.below (below_drewN (Below.refl _ _) m)
theorem OutAt.drewN {w0 w : World} {v : Value} {outs : List Piece} (h : OutAt w0 v outs w) (m : Nat) : OutAt w0 v outs (w.drewN m) := h.below (below_drewN (Below.refl _ _) m)
theorem frame_of (a : Act) (n : Nat) (hs : a.tmps.size = n) (hd : a.defers = []) : a = { tmps := ((List.range n).map (fun i => a.tmps.getD i undef)).toArray, defers := [] } := by
  obtain ⟨t, d⟩ := a
  simp only at hs hd
  subst hd
  congr 1
  apply Array.ext
  · simp [hs]
  · intro i h1 h2
    simp [h1]
theorem frame75 (u : Nat → Value) : ((List.range 75).map u).toArray = #[u 0, u 1, u 2, u 3, u 4, u 5, u 6, u 7, u 8, u 9, u 10, u 11, u 12, u 13, u 14, u 15, u 16, u 17, u 18, u 19, u 20, u 21, u 22, u 23, u 24, u 25, u 26, u 27, u 28, u 29, u 30, u 31, u 32, u 33, u 34, u 35, u 36, u 37, u 38, u 39, u 40, u 41, u 42, u 43, u 44, u 45, u 46, u 47, u 48, u 49, u 50, u 51, u 52, u 53, u 54, u 55, u 56, u 57, u 58, u 59, u 60, u 61, u 62, u 63, u 64, u 65, u 66, u 67, u 68, u 69, u 70, u 71, u 72, u 73, u 74] := rfl
/-- What Get hands back. -/
def GetRes (w : World) (R : Int × List Piece) (e : Ending) (w' : World) : Prop :=
  (R.1 ≠ 0 ∧ e = .returned (.tuple #[.slice none 0 0, .int .i64 R.1]) ∧ Below w.heap.size w w') ∨
  ∃ A, R.1 = 0 ∧ e = .returned (.tuple #[.slice A R.2.length R.2.length, .int .i64 0]) ∧ PsKeep w.heap.size w' A R.2.length R.2 ∧ (A = none → R.2.length = 0) ∧ Below w.heap.size w w'
/-- What holds at the label. -/
structure GetAt (w0 : World) (R : Int × List Piece) (A : Option Addr) (n c : Nat) (v : Value) (last : Int) (w : World) : Prop where
  at_ : ∃ (rest : List Int) (outs : List Piece) (f : Nat), Rd w0 .u8 A n rest ∧ n ≤ c ∧ (A = none → c = 0) ∧ n < f ∧ n ≤ 2048 ∧ getGo f last outs rest = R ∧ OutAt w0 v outs w ∧ Below w0.heap.size w0 w ∧ 0 ≤ last ∧ last ≤ 65535 ∧ outs.length ≤ 16 ∧ (∀ p ∈ outs, okPiece p) ∧ (∀ p ∈ outs, p.2.length ≤ 2048)
def lenOf0 (v : Value) : Nat := match v with | .slice _ n _ => n | _ => 0

end Go.Proofs.YtjikjdignhdipaaGreatDoor

namespace Go.Proofs.YtjikjdignhdipaaGreatDoor
open Go.RowKit
set_option linter.unusedSimpArgs false
set_option linter.unusedVariables false

/-- New bytes in memory of the call's own. -/
def NewB (w : World) (bytes : List Int) (e : Ending) (w' : World) : Prop :=
  ∃ A c m, bytes.length = m ∧ e = .returned (.slice A m c) ∧ Rd w' .u8 A m bytes ∧ (A = none → c = 0) ∧ m ≤ c ∧ Below w.heap.size w w'
theorem rd_own_any {w : World} {base n : Nat} {v : Value} {xs : List Int} (h : w.ownsRow base 5 1 v n (xs.map (Value.int .u8))) (hb : ∀ x ∈ xs, 0 ≤ x ∧ x ≤ 255) (hn : n ≤ 140737488351232) : ∃ A c, v = .slice A n c ∧ Rd w .u8 A n xs ∧ (A = none → c = 0) ∧ n ≤ c := by
  rcases h.2 with ⟨rfl, rfl⟩ | ⟨g, cap, cur, rfl, _, _, hc, _⟩
  · have hx : xs = [] := List.eq_nil_of_length_eq_zero (by have := h.1; simpa using this)
    subst hx
    exact ⟨none, 0, rfl, rd_nil w .u8, fun _ => rfl, Nat.le_refl _⟩
  · exact ⟨_, cap, rfl, rd_own h hb hn, (fun e => by cases e), hc⟩

/-- The same, told closer. -/
def NewO (w : World) (bytes : List Int) (e : Ending) (w' : World) : Prop :=
  ∃ A c m, bytes.length = m ∧ e = .returned (.slice A m c) ∧ w'.ownsRow w.heap.size 5 1 (.slice A m c) m (bytes.map (Value.int .u8)) ∧ Below w.heap.size w w'
theorem NewO.newB {w w' : World} {bytes : List Int} {e : Ending} (h : NewO w bytes e w') (hb : ∀ x ∈ bytes, 0 ≤ x ∧ x ≤ 255) (hn : bytes.length ≤ 140737488351232) : NewB w bytes e w' := by
  obtain ⟨A, c, m, hm, rfl, ho, hB⟩ := h
  obtain ⟨A', c', e, hr, hz, hc⟩ := rd_own_any ho hb (by omega)
  injection e with e1 _ e2
  subst e1; subst e2
  exact ⟨_, _, m, hm, rfl, hr, hz, hc, hB⟩
theorem NewO.before {w w1 w' : World} {bytes : List Int} {e : Ending} (h : NewO w1 bytes e w') (hb : Below w.heap.size w w1) : NewO w bytes e w' := by
  obtain ⟨A, c, m, hm, he, ho, hB⟩ := h
  exact ⟨A, c, m, hm, he, own_lower ho hb.size, hb.trans (hB.mono hb.size)⟩

set_option maxRecDepth 100000 in
set_option maxHeartbeats 1000000 in
theorem behind_own (A0 : Option Addr) (n0 c0 : Nat) (x0 : List Int) (A1 : Option Addr) (n1 c1 : Nat) (x1 : List Int) (w : World) (r0 : Rd w .u8 A0 n0 x0) (z0 : A0 = none → c0 = 0) (r1 : Rd w .u8 A1 n1 x1) (z1 : A1 = none → c1 = 0) (hn : n0 + n1 ≤ 70368744177664) :
    Calls Tryz.prog 97 #[.slice A0 n0 c0, .slice A1 n1 c1] w (NewO w (x0 ++ x1)) := by
  have h0 := r0.len
  have h1 := r1.len
  have hb0 := rd_bytes r0
  have hb1 := rd_bytes r1
  have R0 := Lib.hid r0
  have R1 := Lib.hid r1
  clear r0 r1
  go_enter Tryz.func97, Tryz.ntmps97
  go_wp2_with (first
    | (at_builtin; refine append_bytes w.heap.size rfl _ _ rfl v1 (0 + n0) ([] ++ x0) rfl A1 n1 c1 x1 rfl HR1.out z1 HO1.out HB1.out.size (by omega) ?_
       intro v2 w2 ho2 hg2 hat2
       have HG2 := Lib.hid hg2
       clear hg2 hat2)
    | (at_builtin; refine append_bytes w.heap.size rfl _ _ rfl (.slice none 0 0) 0 [] rfl A0 n0 c0 x0 rfl R0.out z0 (own_nil _ _ _ _) (Nat.le_refl _) (by omega) ?_
       intro v1 w1 HO1 hg1 hat1
       have HB1 := Lib.hid (grown_nil hg1)
       have HR1 := Lib.hid (R1.out.below HB1.out)
       clear hg1 hat1))
  have hB2 : Below w.heap.size w w2 := grown_below HB1.out HG2.out HO1.out (Nat.le_refl _)
  obtain ⟨A, c, rfl, hc, _⟩ := own_slice ho2.out
  have ho3 := ho2.out
  rw [List.nil_append] at ho3
  have hlen : (x0 ++ x1).length = 0 + n0 + n1 := by simp [h0, h1]
  go_ret
  exact ⟨A, c, _, hlen, rfl, ho3, hB2⟩
theorem behind_any (A0 : Option Addr) (n0 c0 : Nat) (x0 : List Int) (A1 : Option Addr) (n1 c1 : Nat) (x1 : List Int) (w : World) (r0 : Rd w .u8 A0 n0 x0) (z0 : A0 = none → c0 = 0) (r1 : Rd w .u8 A1 n1 x1) (z1 : A1 = none → c1 = 0) (hn : n0 + n1 ≤ 70368744177664) :
    Calls Tryz.prog 97 #[.slice A0 n0 c0, .slice A1 n1 c1] w (NewB w (x0 ++ x1)) :=
  (behind_own A0 n0 c0 x0 A1 n1 c1 x1 w r0 z0 r1 z1 hn).mono fun e w' h => h.newB (fun x hx => by
    rcases List.mem_append.1 hx with h | h
    · exact rd_bytes r0 x h
    · exact rd_bytes r1 x h) (by have := r0.len; have := r1.len; simp; omega)
end Go.Proofs.YtjikjdignhdipaaGreatDoor

namespace Go.Proofs.YtjikjdignhdipaaGreatDoor
open Go.RowKit
set_option linter.unusedSimpArgs false
set_option linter.unusedVariables false

theorem NewB.before {w w1 w' : World} {bytes : List Int} {e : Ending} (h : NewB w1 bytes e w') (hb : Below w.heap.size w w1) : NewB w bytes e w' := by
  obtain ⟨A, c, m, hm, he, hr, hz, hc, hB⟩ := h
  exact ⟨A, c, m, hm, he, hr, hz, hc, hb.trans (hB.mono hb.size)⟩

set_option maxRecDepth 100000 in
set_option maxHeartbeats 1000000 in
theorem rrow_own (k : Nat) : ∀ (n kk : Int) (w : World), kk.toNat = k → kk ≤ 8 → 0 ≤ n → n ≤ 18446744073709551615 →
    Calls Tryz.prog 98 #[.int .u64 n, .int .i64 kk] w fun e w' => ∃ A c, e = .returned (.slice A k c) ∧ w'.ownsRow w.heap.size 5 1 (.slice A k c) k ((be n k).map (Value.int .u8)) ∧ Below w.heap.size w w' := by
  induction k with
  | zero =>
    intro n kk w hk h8 h0 h1
    have hlt : kk < 1 := by omega
    clear hk h8
    go_enter Tryz.func98, Tryz.ntmps98
    go_wp2_with fail
    go_ret
    exact ⟨none, 0, rfl, own_nil _ _ _ _, Below.refl _ _⟩
  | succ k ih =>
    intro n kk w hk h8 h0 h1
    obtain rfl : kk = (k : Int) + 1 := by omega
    have hrec := ih (n / 256) (k : Int) w (by omega) (by omega) (by omega) (by omega)
    have hq : n.tdiv 256 = n / 256 := Int.tdiv_eq_ediv_of_nonneg h0
    have hr : n.tmod 256 = n % 256 := Int.tmod_eq_emod_of_nonneg h0
    have hw1 : IntKind.u64.wrap (n / 256) = n / 256 := IntWalk.u64_in _ (by omega)
    have hw2 : IntKind.u8.wrap (n % 256) = n % 256 := IntWalk.u8_in _ (by omega)
    have hw2b : IntKind.u64.wrap (n % 256) = n % 256 := IntWalk.u64_in _ (by omega)
    have hw3 : IntKind.i64.wrap ((k : Int) + 1 - 1) = (k : Int) := by rw [IntWalk.i64_in _ (by omega)]; omega
    have hb : 0 ≤ n % 256 ∧ n % 256 ≤ 255 := by omega
    have hbe : be n (k + 1) = be (n / 256) k ++ [n % 256] := rfl
    rw [hbe]
    generalize n / 256 = q at *
    generalize n % 256 = r at *
    have HREC := Lib.hid hrec
    clear ih hrec hbe hk
    have hge : ¬ ((k : Int) + 1 < 1) := by omega
    go_enter Tryz.func98, Tryz.ntmps98
    go_wp2_with fail
    refine HREC.out.mono ?_; rintro e w1 ⟨A, c, rfl, ho, hB⟩
    have HO := Lib.hid ho
    have HB := Lib.hid hB
    clear ho hB
    go_wp2_with (at_builtin; refine append_int (W := w1) w.heap.size rfl _ _ 31 5 .u8 1 rfl Tryz.underlying31 info_u8n (by omega) (.slice A k c) k (be q k) r rfl rfl HO.out HB.out.size (by omega) ?_; intro v2 w2 ho2 hk2 hb2; obtain ⟨A2, c2, rfl, -, -, -⟩ := own_slice ho2; have HO2 := Lib.hid ho2; have HK2 := Lib.hid hk2; clear ho2 hk2 hb2)
    go_ret
    exact ⟨A2, c2, rfl, HO2.out, below_keeps HB.out HK2.out (Nat.le_refl _) (fun i hi => (own_base HO.out i hi).1)⟩
theorem rrow_any (k : Nat) (n kk : Int) (w : World) (hk : kk.toNat = k) (h8 : kk ≤ 8) (h0 : 0 ≤ n) (h1 : n ≤ 18446744073709551615) :
    Calls Tryz.prog 98 #[.int .u64 n, .int .i64 kk] w fun e w' => ∃ A c, e = .returned (.slice A k c) ∧ Rd w' .u8 A k (be n k) ∧ (A = none → c = 0) ∧ Below w.heap.size w w' := by
  refine (rrow_own k n kk w hk h8 h0 h1).mono ?_
  rintro e w' ⟨A, c, rfl, ho, hB⟩
  obtain ⟨A', c', he, hr, hz, _⟩ := rd_own_any ho (be_byte k n) (by omega)
  injection he with e1 _ e2
  subst e1; subst e2
  exact ⟨_, _, rfl, hr, hz, hB⟩

set_option maxRecDepth 100000 in
set_option maxHeartbeats 1000000 in
theorem rput_own (A0 : Option Addr) (n0 c0 : Nat) (bs : List Int) (n k : Int) (w : World) (r0 : Rd w .u8 A0 n0 bs) (z0 : A0 = none → c0 = 0) (hn : n0 ≤ 4194304) (h0 : 0 ≤ n) (h1 : n ≤ 18446744073709551615) :
    Calls Tryz.prog 31 #[.slice A0 n0 c0, .int .u64 n, .int .i64 k] w (NewO w (bs ++ be n (putMany k))) := by
  have FIN : ∀ (kk : Int) (m : Nat), kk.toNat = m → kk ≤ 8 → Calls Tryz.prog 98 #[.int .u64 n, .int .i64 kk] w fun e w1 => ∃ A c, e = .returned (.slice A m c) ∧ Below w.heap.size w w1 ∧ Calls Tryz.prog 97 #[.slice A0 n0 c0, .slice A m c] w1 (NewO w (bs ++ be n m)) := fun kk m hm h8 => by
    refine (rrow_any m n kk w hm h8 h0 h1).mono ?_
    rintro e w1 ⟨A, c, rfl, hr, hz, hB⟩
    exact ⟨A, c, rfl, hB, (behind_own A0 n0 c0 bs A m c (be n m) w1 (r0.below hB) z0 hr hz (by omega)).mono fun e w' h => h.before hB⟩
  by_cases k8 : 8 < k
  · have e1 : putMany k = 8 := by unfold putMany; omega
    have HF := Lib.hid (FIN 8 8 rfl (by omega))
    rw [e1]
    clear FIN e1
    go_enter Tryz.func31, Tryz.ntmps31
    go_wp2_with fail
    refine HF.out.mono ?_; rintro e w1 ⟨A, c, rfl, hB, hb⟩
    have HBH := Lib.hid hb
    clear hb hB
    go_wp2_with fail
    refine HBH.out.mono ?_; rintro e w2 ⟨A2, c2, m2, hm2, rfl, ho2, hB2⟩
    have H2 := Lib.hid (And.intro ho2 hB2)
    have HM2 := Lib.hid hm2
    clear ho2 hB2 hm2
    go_wp2_with fail
    go_ret
    exact ⟨A2, c2, m2, HM2.out, rfl, H2.out.1, H2.out.2⟩
  by_cases k8e : k = 8
  · subst k8e
    have e1 : putMany 8 = 8 := by unfold putMany; omega
    have HF := Lib.hid (FIN 8 8 rfl (by omega))
    rw [e1]
    clear FIN e1 k8
    go_enter Tryz.func31, Tryz.ntmps31
    go_wp2_with fail
    refine HF.out.mono ?_; rintro e w1 ⟨A, c, rfl, hB, hb⟩
    have HBH := Lib.hid hb
    clear hb hB
    go_wp2_with fail
    refine HBH.out.mono ?_; rintro e w2 ⟨A2, c2, m2, hm2, rfl, ho2, hB2⟩
    have H2 := Lib.hid (And.intro ho2 hB2)
    have HM2 := Lib.hid hm2
    clear ho2 hB2 hm2
    go_wp2_with fail
    go_ret
    exact ⟨A2, c2, m2, HM2.out, rfl, H2.out.1, H2.out.2⟩
  · have e1 : putMany k = k.toNat := by unfold putMany; omega
    have k9 : k ≤ 8 := by omega
    have HF := Lib.hid (FIN k k.toNat rfl k9)
    rw [e1]
    have k7 : k < 8 := by omega
    clear FIN e1
    go_enter Tryz.func31, Tryz.ntmps31
    go_wp2_with fail
    refine HF.out.mono ?_; rintro e w1 ⟨A, c, rfl, hB, hb⟩
    have HBH := Lib.hid hb
    clear hb hB
    go_wp2_with fail
    refine HBH.out.mono ?_; rintro e w2 ⟨A2, c2, m2, hm2, rfl, ho2, hB2⟩
    have H2 := Lib.hid (And.intro ho2 hB2)
    have HM2 := Lib.hid hm2
    clear ho2 hB2 hm2
    go_wp2_with fail
    go_ret
    exact ⟨A2, c2, m2, HM2.out, rfl, H2.out.1, H2.out.2⟩

theorem rput_any (A0 : Option Addr) (n0 c0 : Nat) (bs : List Int) (n k : Int) (w : World) (r0 : Rd w .u8 A0 n0 bs) (z0 : A0 = none → c0 = 0) (hn : n0 ≤ 4194304) (h0 : 0 ≤ n) (h1 : n ≤ 18446744073709551615) :
    Calls Tryz.prog 31 #[.slice A0 n0 c0, .int .u64 n, .int .i64 k] w (NewB w (bs ++ be n (putMany k))) :=
  (rput_own A0 n0 c0 bs n k w r0 z0 hn h0 h1).mono fun e w' h => h.newB (fun x hx => by
    rcases List.mem_append.1 hx with h | h
    · exact rd_bytes r0 x h
    · exact be_byte _ _ x h) (by have := r0.len; rw [List.length_append, be_length]; unfold putMany; omega)

end Go.Proofs.YtjikjdignhdipaaGreatDoor
