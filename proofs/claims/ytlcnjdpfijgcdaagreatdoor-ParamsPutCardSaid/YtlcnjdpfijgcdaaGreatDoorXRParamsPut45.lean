/- The walk over the law ParamsPut; Parameters that are arrays or structs, opened: part by part. -/
import Derived.Test.YtlcnjdpfijgcdaaGreatDoorXRParamsPut20
import Derived.Test.YtlcnjdpfijgcdaaGreatDoorXRParamsPut21
import Derived.Test.YtlcnjdpfijgcdaaGreatDoorXRParamsPut35
import Derived.Test.YtlcnjdpfijgcdaaGreatDoorXRParamsPut40
import Derived.Test.YtlcnjdpfijgcdaaGreatDoorXRParamsPut44
import Derived.Test.YtlcnjdpfijgcdaaGreatDoorXRParamsPut18
import Derived.Test.YtlcnjdpfijgcdaaGreatDoorBase
import Derived.ChangeSlices
import Derived.ChangeArms
import Derived.SizedLaws
import Derived.ProofKit
import Derived.OpenShut
namespace Go.Proofs.YtlcnjdpfijgcdaaGreatDoor
open Go.RowKit
set_option linter.unusedSimpArgs false
set_option linter.unusedVariables false

/-- The bytes of pieces that may be, else none; likewise of one more, of one found. -/
def pB (ps : List Piece) : List Int := if putE ps = 0 then pieces ps else []
def wL (ps : List Piece) (p : Piece) : List Piece := if withE ps p.1 = 0 then withL ps p else []
def fB (ps : List Piece) (t : Int) : List Int := (paFind ps t).getD []
def BytesU (w : World) (bs : List Int) (r : Value) (e : Ending) (w' : World) : Prop :=
  ∃ A c, e = .returned (.tuple #[.slice A bs.length c, r]) ∧ RowG 5 1 w.heap.size w' (.slice A bs.length c) bs.length (bs.map (Value.int .u8)) ∧ Below w.heap.size w w'
def RBytesU (w : World) (bs : List Int) (r : Value) (e : Ending) (w' : World) : Prop :=
  ∃ A c, e = .returned (.tuple #[.slice A bs.length c, r]) ∧ Rd w' .u8 A bs.length bs ∧ Below w.heap.size w w'
def PiecesU (w : World) (ps : List Piece) (r : Value) (e : Ending) (w' : World) : Prop :=
  ∃ A c cells, e = .returned (.tuple #[.slice A ps.length c, r]) ∧ PsOwn w.heap.size w' (.slice A ps.length c) ps cells ∧ Below w.heap.size w w'
theorem psOwn_none (base : Nat) (w : World) : PsOwn base w (.slice none 0 0) [] [] :=
  ⟨RowG.of_own (own_nil _ _ _ _), fun j t body hj => by simp at hj, fun i j g n c n' c' _ h => by simp at h⟩
theorem paput_u (A : Option Addr) (n c : Nat) (ps : List Piece) (w : World) (h : Ps w A n ps) : Calls Tryz.prog 17 #[.slice A n c] w (BytesU w (pB ps) (.int .i64 (putE ps))) :=
  (paput_own A n c ps w h).mono fun e w' h => by
    rcases h with ⟨h1, rfl, h2⟩ | ⟨A, h1, rfl, _, _, _, h5, c', h6, h7⟩
    · refine ⟨none, 0, by simp [pB, h1], ?_, h2⟩
      simp only [pB, if_neg h1, List.length_nil, List.map_nil]
      exact RowG.of_own (own_nil _ _ _ _)
    · refine ⟨A, (pieces ps).length, by simp [pB, h1], ?_, h5⟩
      simp only [pB, if_pos h1]
      exact ⟨A, (pieces ps).length, c', rfl, Nat.le_refl _, h6, h7⟩
theorem refpaput_u (A : Option Addr) (n c : Nat) (ps : List Piece) (w : World) (h : Ps w A n ps) : Calls Tryz.prog 18 #[.slice A n c] w (RBytesU w (pB ps) (.int .i64 (putE ps))) :=
  (refpaput_any A n c ps w h).mono fun e w' h => by
    rcases h with ⟨h1, rfl, h2⟩ | ⟨A, c, h1, rfl, h3, _, _, h5⟩
    · refine ⟨none, 0, by simp [pB, h1], ?_, h2⟩
      simp only [pB, if_neg h1, List.length_nil]
      exact rd_nil w' .u8
    · refine ⟨A, c, by simp [pB, h1], ?_, h5⟩
      simp only [pB, if_pos h1]
      exact h3
theorem with_u (A : Option Addr) (n c : Nat) (t : Int) (B : Option Addr) (m d : Nat) (body : List Int) (ps : List Piece) (w : World) (hps : Ps w A n ps) (ht : 0 ≤ t ∧ t ≤ 65535) (hrd : Rd w .u8 B m body) (hmd : m ≤ d) (hz : B = none → d = 0) :
    Calls Tryz.prog 19 #[.slice A n c, .agg #[.int .u16 t, .slice B m d]] w (PiecesU w (wL ps (t, body)) (.int .i64 (withE ps t))) :=
  (with_any A n c t B m d body ps w hps ht hrd hmd hz).mono fun e w' h => by
    rcases h with ⟨h1, rfl, h2⟩ | ⟨G, cells, h1, rfl, h3, h4⟩
    · simp only at h1
      refine ⟨none, 0, [], by simp [wL, h1], ?_, h2⟩
      simp only [wL, if_neg h1, List.length_nil]
      exact psOwn_none _ _
    · simp only at h1
      rcases withE_cases ps t with ⟨h, _⟩ | ⟨_, _, _, h⟩ | ⟨_, _, _, _, h⟩ | ⟨hr, ht0, hf, h16, _⟩
      · omega
      · omega
      · omega
      have hl := withL_length (p := (t, body)) hr hf
      refine ⟨some ⟨G, 0, none⟩, ps.length + 1, cells, by simp [wL, h1, hl], ?_, h4⟩
      simp only [wL, if_pos h1, hl]
      exact h3
theorem rwith_u (A : Option Addr) (n c : Nat) (t : Int) (B : Option Addr) (m d : Nat) (body : List Int) (ps : List Piece) (w : World) (hps : Ps w A n ps) (hn : n < 1099511627776) (ht : 0 ≤ t ∧ t ≤ 65535) (hrd : Rd w .u8 B m body) (hmd : m ≤ d) (hz : B = none → d = 0) :
    Calls Tryz.prog 20 #[.slice A n c, .agg #[.int .u16 t, .slice B m d]] w (PiecesU w (wL ps (t, body)) (.int .i64 (withE ps t))) :=
  (rwith_any A n c t B m d body ps w hps hn ht hrd hmd hz).mono fun e w' h => by
    rcases h with ⟨h1, rfl, h2⟩ | ⟨A', c', cells, h1, rfl, h3, h4⟩
    · simp only at h1
      refine ⟨none, 0, [], by simp [wL, h1], ?_, h2⟩
      simp only [wL, if_neg h1, List.length_nil]
      exact psOwn_none _ _
    · simp only at h1
      refine ⟨A', c', cells, by simp [wL, h1], ?_, h4⟩
      simp only [wL, if_pos h1]
      exact h3
theorem find_u (A : Option Addr) (n c : Nat) (t : Int) (ps : List Piece) (w : World) (hps : Ps w A n ps) (hn : n < 1099511627776) : Calls Tryz.prog 21 #[.slice A n c, .int .u16 t] w (BytesU w (fB ps t) (.bool (paFind ps t).isSome)) :=
  (find_any A n c t ps w hps hn).mono fun e w' h => by
    rcases h with ⟨h1, rfl, h2⟩ | ⟨body, B, h1, rfl, h3, h4⟩
    · refine ⟨none, 0, by simp [fB, h1], ?_, h2⟩
      simp only [fB, h1, Option.getD_none, List.length_nil, List.map_nil]
      exact RowG.of_own (own_nil _ _ _ _)
    · refine ⟨B, body.length, by simp [fB, h1], ?_, h4⟩
      simp only [fB, h1, Option.getD_some]
      exact h3
theorem rfind_u (A : Option Addr) (n c : Nat) (t : Int) (ps : List Piece) (w : World) (hps : Ps w A n ps) (hn : n < 1099511627776) : Calls Tryz.prog 22 #[.slice A n c, .int .u16 t] w (BytesU w (fB ps t) (.bool (paFind ps t).isSome)) :=
  (rfind_any A n c t ps w hps hn).mono fun e w' h => by
    rcases h with ⟨h1, rfl, h2⟩ | ⟨body, B, c, h1, rfl, h3, h4⟩
    · refine ⟨none, 0, by simp [fB, h1], ?_, h2⟩
      simp only [fB, h1, Option.getD_none, List.length_nil, List.map_nil]
      exact RowG.of_own (own_nil _ _ _ _)
    · refine ⟨B, c, by simp [fB, h1], ?_, h4⟩
      simp only [fB, h1, Option.getD_some]
      exact h3
theorem wL_small {ps : List Piece} {p : Piece} (hok : ∀ q ∈ ps, okPiece q) (hp : okPiece p) : (wL ps p).length ≤ 16 ∧ ∀ q ∈ wL ps p, okPiece q := by
  unfold wL
  split
  · rename_i h
    rcases withE_cases ps p.1 with ⟨h1, _⟩ | ⟨_, _, _, h1⟩ | ⟨_, _, _, _, h1⟩ | ⟨hr, ht0, hf, h16, _⟩
    · omega
    · omega
    · omega
    · exact ⟨by rw [withL_length hr hf]; omega, okPiece_with hok hp⟩
  · exact ⟨by simp, fun q hq => by simp at hq⟩
theorem wL_len {ps : List Piece} {p : Piece} {K : Nat} (hl : ∀ q ∈ ps, q.2.length ≤ K) (hp : p.2.length ≤ K) : ∀ q ∈ wL ps p, q.2.length ≤ K := by
  unfold wL
  split
  · intro q hq
    simp only [withL, List.mem_append, List.mem_cons] at hq
    rcases hq with hq | rfl | hq
    · exact hl q (List.mem_filter.1 hq).1
    · exact hp
    · exact hl q (List.mem_filter.1 hq).1
  · intro q hq; simp at hq
theorem fB_mem {ps : List Piece} {t : Int} {K : Nat} (hl : ∀ q ∈ ps, q.2.length ≤ K) (hok : ∀ q ∈ ps, okPiece q) : (fB ps t).length ≤ K ∧ ∀ x ∈ fB ps t, 0 ≤ x ∧ x ≤ 255 := by
  unfold fB paFind
  cases h : ps.find? (fun p => p.1 == t) with
  | none => simp
  | some p =>
    have := List.mem_of_find?_eq_some h
    simp only [Option.map_some, Option.getD_some]
    exact ⟨hl p this, (hok p this).2.2⟩
theorem pB_byte {ps : List Piece} (hok : ∀ q ∈ ps, okPiece q) : ∀ x ∈ pB ps, 0 ≤ x ∧ x ≤ 255 := by
  unfold pB
  split
  · exact pieces_byte ps hok
  · intro x hx; simp at hx
theorem pB_small (ps : List Piece) : (pB ps).length ≤ 2048 := by
  unfold pB
  split
  · rename_i h
    unfold putE at h
    split at h
    · omega
    · split at h
      · omega
      · split at h
        · omega
        · split at h
          · omega
          · omega
  · simp

set_option maxRecDepth 100000 in
set_option maxHeartbeats 16000000 in
theorem pput_big (A : Option Addr) (n c : Nat) (t : Int) (B : Option Addr) (d : Nat) (body : List Int) (ps : List Piece) (w : World) (hps : Ps w A n ps) (hbig : 10000 < psSize ps ∨ 3000 < body.length) (hsz : psSize ps ≤ 281474976710656) :
    Calls Tryz.prog 4 #[.slice A n c, .agg #[.int .u16 t, .slice B body.length d]] w fun e w' => e = .returned (.bool true) ∧ Below w.heap.size w w' := by
  have hB := new_belowB w (.cells #[.int .u16 t, .slice B body.length d] 53)
  have hkp : Blk (w.alloc (.cells #[.int .u16 t, .slice B body.length d] 53)) w.heap.size 53 [.int .u16 t, .slice B body.length d] := Blk.new w 53 [.int .u16 t, .slice B body.length d]
  obtain ⟨w1, hw1⟩ : ∃ w1, w.alloc (.cells #[.int .u16 t, .slice B body.length d] 53) = w1 := ⟨_, rfl⟩
  rw [hw1] at hB hkp
  have hsize := pssize_any A n c ps w1 (hps.below hB)
  have HW1 := Lib.hid hw1
  have HB := Lib.hid hB
  have HKP := Lib.hid hkp
  have HSIZE := Lib.hid hsize
  obtain ⟨P, hP⟩ : ∃ P, w.heap.size = P := ⟨_, rfl⟩
  rw [hP] at HKP
  clear hw1 hB hkp hsize hps
  obtain ⟨S, hS⟩ : ∃ S, psSize ps = S := ⟨_, rfl⟩
  rw [hS] at HSIZE hbig hsz
  obtain ⟨L, hL⟩ : ∃ L, body.length = L := ⟨_, rfl⟩
  rw [hL] at HKP HW1 hbig ⊢
  clear hS hL
  by_cases h1 : 10000 < S
  · have h1' : (10000 : Int) < (S : Int) := by omega
    clear hbig
    go_enter Tryz.func4, Tryz.ntmps4
    go_wp2_with fail
    rw [HW1.out]; clear hP
    refine HSIZE.out.mono ?_; rintro e w2 ⟨rfl, hB2⟩
    have HB2 := Lib.hid (HB.out.trans (hB2.mono HB.out.size))
    clear hB2
    go_wp2_with fail
    refine (lives_true w2).mono ?_; rintro e w3 ⟨rfl, hB3⟩
    have HB3 := Lib.hid (HB2.out.trans (hB3.mono HB2.out.size))
    clear hB3
    go_wp2_with fail
    go_ret
    exact ⟨rfl, HB3.out⟩
  · have h1' : ¬ (10000 : Int) < (S : Int) := by omega
    have h2' : (3000 : Int) < (L : Int) := by omega
    clear hbig
    go_enter Tryz.func4, Tryz.ntmps4
    go_wp2_with fail
    rw [HW1.out]; clear hP
    refine HSIZE.out.mono ?_; rintro e w2 ⟨rfl, hB2⟩
    have c1 : w2.cell? ⟨P, 1, none⟩ = some (.slice B L d) := (hB2.cell (p := ⟨P, 1, none⟩) HKP.out.lt).trans (HKP.out.cell 1)
    have HB2 := Lib.hid (HB.out.trans (hB2.mono HB.out.size))
    clear hB2
    go_wp2_with fail
    refine (lives_true w2).mono ?_; rintro e w3 ⟨rfl, hB3⟩
    have HB3 := Lib.hid (HB2.out.trans (hB3.mono HB2.out.size))
    clear hB3 c1
    go_wp2_with fail
    go_ret
    exact ⟨rfl, HB3.out⟩
end Go.Proofs.YtlcnjdpfijgcdaaGreatDoor

namespace Go.Proofs.YtlcnjdpfijgcdaaGreatDoor
open Go.RowKit Go.ChangeShapes Go.WideShapes
set_option linter.unusedSimpArgs false
set_option linter.unusedVariables false
section
variable {H : Type} {enc : TypeId × Value → H} {P : Program} {w : World} {base : Nat} {spare : Nat → Bool} {held : Bool} {t e : TypeId} {fuel n : Nat} {cs : List Value} {x : DataW H × List MemPlace}

theorem mapM_parts {α β : Type} {f : α → Option β} : ∀ {L : List α} {xs : List β}, L.mapM f = some xs → xs.length = L.length ∧ ∀ (i : Nat) (a : α), L[i]? = some a → ∃ y, xs[i]? = some y ∧ f a = some y
  | [], xs, h => by
    simp at h
    subst h
    exact ⟨rfl, fun i a h => by simp at h⟩
  | a :: L, xs, h => by
    rw [List.mapM_cons] at h
    simp only [bind, Option.bind_eq_some_iff, pure, Option.some.injEq] at h
    obtain ⟨y, hy, ys, hys, rfl⟩ := h
    obtain ⟨hl, hp⟩ := mapM_parts hys
    refine ⟨by simp [hl], fun i b hb => ?_⟩
    cases i with
    | zero => simp at hb; subst hb; exact ⟨y, rfl, hy⟩
    | succ i => exact hp i b (by simpa using hb)

theorem weights_all {P : Program} {e : TypeId} : ∀ {l : List (DataW H)} {i : Nat} {d : DataW H}, l[i]? = some d → ∀ n ∈ d.weights P e, n ∈ DataW.weightsAll P e l
  | [], _, _, h, _, _ => by simp at h
  | d0 :: l, 0, d, h, n, hn => by
    simp at h; subst h
    simp only [DataW.weightsAll, List.mem_append]
    exact .inl hn
  | d0 :: l, i + 1, d, h, n, hn => by
    simp only [DataW.weightsAll, List.mem_append]
    exact .inr (weights_all (by simpa using h) n hn)

/-- All that a datum weighs is within reach. -/
def Light (P : Program) (t : TypeId) (d : DataW H) : Prop := (d.weights P t).all (· ≤ reachBytes) = true

/-- An array, part by part. -/
theorem open_array (hu : P.underlying t = some (.array n e)) (h : DataW.trod enc P w base spare held fuel t cs = some x) :
    cs.length = P.cellsOf t ∧ ∃ m, ∀ i, i < n → ∃ y, DataW.trod enc P w base spare held m e ((cs.drop (i * P.cellsOf e)).take (P.cellsOf e)) = some y ∧ (Light P t x.1 → Light P e y.1) := by
  cases fuel with
  | zero => simp [DataW.trod] at h
  | succ m =>
    rw [DataW.trod_step] at h
    unfold DataW.trodStep at h
    simp only [hu] at h
    split at h
    · rename_i hl
      simp only [Option.map_eq_some_iff] at h
      obtain ⟨ys, hy, rfl⟩ := h
      refine ⟨hl, m, fun i hi => ?_⟩
      obtain ⟨hlen, hp⟩ := mapM_parts hy
      obtain ⟨y, hy1, hy2⟩ := hp i i (by simp [hi])
      refine ⟨y, hy2, fun hL => List.all_eq_true.2 fun k hk => List.all_eq_true.1 hL k ?_⟩
      simp only [DataW.weights, hu]
      exact weights_all (i := i) (by simp [hy1]) k hk
    · cases h

/-- A struct, field by field. -/
theorem open_struct {fs : Array Field} (hu : P.underlying t = some (.struct fs)) (h : DataW.trod enc P w base spare held fuel t cs = some x) :
    cs.length = P.cellsOf t ∧ ∃ m, ∀ (i : Nat) (f : Field), fs.toList[i]? = some f → ∃ y, DataW.trod enc P w base spare held m f.type ((cs.drop f.offset).take (P.cellsOf f.type)) = some y ∧ (Light P t x.1 → Light P f.type y.1) := by
  cases fuel with
  | zero => simp [DataW.trod] at h
  | succ m =>
    rw [DataW.trod_step] at h
    unfold DataW.trodStep at h
    simp only [hu] at h
    split at h
    · rename_i hl
      simp only [Option.map_eq_some_iff] at h
      obtain ⟨ys, hy, rfl⟩ := h
      refine ⟨hl, m, fun i f hi => ?_⟩
      obtain ⟨hlen, hp⟩ := mapM_parts hy
      obtain ⟨y, hy1, hy2⟩ := hp i f hi
      refine ⟨y, hy2, fun hL => List.all_eq_true.2 fun k hk => List.all_eq_true.1 hL k ?_⟩
      simp only [DataW.weights, hu]
      exact DataW.weights_mem_each (j := i) (by simp [hi]) (by simp [hy1]) k hk
    · cases h

/-- A whole number, a bool. -/
theorem cell_int {k : IntKind} (hu : P.underlying t = some (.int k)) (h : DataW.trod enc P w base spare held fuel t cs = some x) : ∃ a, cs = [.int k a] ∧ (Lit.int k a).wf = true := by
  obtain ⟨a, h1, _, h2⟩ := DataW.trod_int hu h
  exact ⟨a, h1, h2⟩

theorem drop_one {α : Type} {l : List α} {i : Nat} {a : α} (h : (l.drop (i * 1)).take 1 = [a]) : l[i]? = some a := by
  have := congrArg (·[0]?) h
  simpa [List.getElem?_take, List.getElem?_drop] using this

/-- An array of whole numbers. -/
theorem open_array_ints {k : IntKind} (hu : P.underlying t = some (.array n e)) (he : P.underlying e = some (.int k)) (hc : P.cellsOf e = 1) (hct : P.cellsOf t = n) (h : DataW.trod enc P w base spare held fuel t cs = some x) :
    ∃ l : List Int, cs = l.map (Value.int k) ∧ l.length = n ∧ ∀ y ∈ l, (Lit.int k y).wf = true := by
  obtain ⟨hl, m, hp⟩ := open_array hu h
  rw [hct] at hl
  have each : ∀ i, i < n → ∃ a, cs[i]? = some (.int k a) ∧ (Lit.int k a).wf = true := by
    intro i hi
    obtain ⟨y, hy, _⟩ := hp i hi
    rw [hc] at hy
    obtain ⟨a, h1, h2⟩ := cell_int he hy
    exact ⟨a, drop_one h1, h2⟩
  refine ⟨cs.map (fun v => match v with | .int _ a => a | _ => 0), ?_, by simp [hl], ?_⟩
  · apply List.ext_getElem?
    intro i
    rcases Nat.lt_or_ge i n with hi | hi
    · obtain ⟨a, h1, _⟩ := each i hi
      simp [h1]
    · rw [List.getElem?_eq_none (by omega), List.getElem?_eq_none (by simp; omega)]
  · intro y hy
    obtain ⟨v, hv, rfl⟩ := List.mem_map.1 hy
    obtain ⟨i, hi, hvi⟩ := List.getElem_of_mem hv
    obtain ⟨a, h1, h2⟩ := each i (by omega)
    rw [List.getElem?_eq_getElem hi] at h1
    injection h1 with h1
    rw [← hvi, h1]
    exact h2

/-- A slice of whole numbers. -/
structure Sl (w : World) (k : IntKind) (A : Option Addr) (n c : Nat) (xs : List Int) : Prop where
  rd : Rd w k A n xs
  le : n ≤ c
  nil : A = none → c = 0
  cap : c ≤ 140737488351232
  plain : 0 < c → ∃ b off, A = some ⟨b, off, none⟩
theorem open_sl {k : IntKind} (ht : P.underlying t = some (.slice e)) (he : P.underlying e = some (.int k)) (hc : P.cellsOf e = 1) (hb : 0 < P.bytesOf e)
    (h : DataW.trod enc P w 0 (fun _ => true) held fuel t cs = some x) (hx : Light P t x.1) : ∃ A n c xs, cs = [.slice A n c] ∧ Sl w k A n c xs := by
  rcases open_ints ht he hc h with ⟨rfl, rfl⟩ | ⟨a, len, cap, zs, rfl, _, hl, hm, hz, rfl, hcell, hw⟩
  · exact ⟨none, 0, 0, [], rfl, ⟨rfl, by omega, by simp, fun h => absurd h (by omega)⟩, by omega, fun _ => rfl, by omega, fun h => absurd h (by omega)⟩
  · simp only [if_true] at hz
    have hy : (cap) * P.bytesOf e ≤ reachBytes := by
      have := List.all_eq_true.1 hx ((((zs.take len).length + (zs.drop len).length)) * P.bytesOf e) (by simp [DataW.weights, ht, lits])
      simp only [List.length_take, List.length_drop, hz, decide_eq_true_eq] at this
      rwa [show min len cap + (cap - len) = cap by omega] at this
    have hy' : cap * P.bytesOf e ≤ 140737488351232 := hy
    obtain ⟨u, c⟩ := rd_of_row (w := w) (k := k) (a := some a) (len := len) (cap := cap) (zs := zs) hb hy' (.inr ⟨a, rfl, hl, hm, hz, hcell, hw⟩)
    refine ⟨some a, len, cap, _, rfl, u, c, fun h => (by cases h), Nat.le_trans (Nat.le_mul_of_pos_right _ hb) hy', fun h0 => ?_⟩
    have h0' := hcell 0 (by omega)
    obtain ⟨b, off, sp⟩ := a
    have hs : sp = none := by simpa [Addr.add] using World.cell?_spot h0'
    exact ⟨b, off, by rw [hs]⟩
/-- A value that is one row of cells. -/
theorem okWide_agg {r : Reach} {b0 : Nat} {v : Value} (hu : (∃ fs, P.underlying t = some (.struct fs)) ∨ ∃ k f, P.underlying t = some (.array k f)) (h : Value.okWide P w r b0 t v) : ∃ cs, v = .agg cs ∧ cs.size = P.cellsOf t := by
  rcases hu with ⟨fs, hu⟩ | ⟨k, f, hu⟩ <;>
  · simp only [Value.okWide, hu] at h
    obtain ⟨cs, h1, h2, _⟩ := h
    exact ⟨cs, h1, h2⟩
end
end Go.Proofs.YtlcnjdpfijgcdaaGreatDoor
