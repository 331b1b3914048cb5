/- The walks over TwinParam, TwinParams: the same pieces in memory of their own, and marks behind each list. -/
import Derived.Test.YtjikjdignhdipaaGreatDoorYRPacketsGet9
import Derived.Test.YtjikjdignhdipaaGreatDoorYRPacketsGet21
namespace Go.Proofs.YtjikjdignhdipaaGreatDoor
open Go.RowKit
set_option linter.unusedSimpArgs false
set_option linter.unusedVariables false

/-- A twin of bytes, its mark behind it. -/
def TwinRow (base : Nat) (w : World) (B : Option Addr) (body : List Int) (c : Nat) : Prop :=
  ∃ g, B = some ⟨g, 0, none⟩ ∧ body.length < c ∧ c ≤ maxLen ∧ base ≤ g ∧ g < w.heap.size ∧ w.ownsRow base 5 1 (.slice (some ⟨g, 0, none⟩) (body.length + 1) c) (body.length + 1) ((body ++ [77]).map (Value.int .u8))
theorem TwinRow.keep {M : Nat → Prop} {base : Nat} {w w' : World} {B : Option Addr} {body : List Int} {c : Nat} (h : TwinRow base w B body c) (hk : Keeps M w w') (hM : ∀ k cur, base ≤ k → w.heap[k]? = some (.cells cur 5 (0, 0)) → ¬ M k) : TwinRow base w' B body c := by
  obtain ⟨g, h1, h2, h3, h4, h5, h6⟩ := h
  refine ⟨g, h1, h2, h3, h4, Nat.lt_of_lt_of_le h5 hk.size, hk.own h6 (fun k hk2 => ?_)⟩
  obtain ⟨h7, _, cur, h8⟩ := own_type h6 hk2
  exact hM k cur h7 h8
theorem TwinRow.below {base : Nat} {w w' : World} {B : Option Addr} {body : List Int} {c : Nat} (h : TwinRow base w B body c) (hB : Below w.heap.size w w') : TwinRow base w' B body c := h.keep (Keeps.of_below (M := fun _ => False) hB) (fun _ _ _ _ h => h)
theorem TwinRow.row {base : Nat} {w : World} {B : Option Addr} {body : List Int} {c : Nat} (h : TwinRow base w B body c) : RowG 5 1 base w (.slice B body.length c) body.length (body.map (Value.int .u8)) := by
  obtain ⟨g, rfl, h2, h3, h4, h5, h6⟩ := h
  have := own_take h6 (m := body.length) (by omega)
  rw [← List.map_take, List.take_append_of_le_length (by omega), List.take_of_length_le (by omega)] at this
  exact RowG.of_own this
theorem TwinRow.rd {base : Nat} {w : World} {B : Option Addr} {body : List Int} {c : Nat} (h : TwinRow base w B body c) (hb : ∀ x ∈ body, 0 ≤ x ∧ x ≤ 255) (hn : body.length ≤ 70368744177664) : Rd w .u8 B (body.length + 1) (body ++ [77]) := by
  obtain ⟨g, rfl, h2, h3, h4, h5, h6⟩ := h
  exact rd_own h6 (fun x hx => by
    rcases List.mem_append.1 hx with h | h
    · exact hb x h
    · obtain rfl : x = 77 := by simpa using h
      omega) (by omega)

set_option maxRecDepth 100000 in
set_option maxHeartbeats 1000000 in
theorem twinp_any (t : Int) (A : Option Addr) (n c : Nat) (body : List Int) (w : World) (r : Rd w .u8 A n body) (l : n ≤ c) (hn : n ≤ 70368744177664) :
    Calls Tryz.prog 91 #[.agg #[.int .u16 t, .slice A n c]] w fun e w' => ∃ B cb, e = .returned (.agg #[.int .u16 t, .slice B body.length cb]) ∧ TwinRow w.heap.size w' B body cb ∧ Below w.heap.size w w' := by
  have hk1 : Blk ((w.alloc (.cells #[.int .u16 t, .slice A n c] 82)).alloc (.cells #[.int .u16 0, .slice none 0 0] 82)) w.heap.size 82 [.int .u16 t, .slice A n c] := (Blk.new w 82 [.int .u16 t, .slice A n c]).alloc _
  have hk2 : Blk ((w.alloc (.cells #[.int .u16 t, .slice A n c] 82)).alloc (.cells #[.int .u16 0, .slice none 0 0] 82)) (w.heap.size + 1) 82 [.int .u16 0, .slice none 0 0] := by
    have := Blk.new (w.alloc (.cells #[.int .u16 t, .slice A n c] 82)) 82 [.int .u16 0, .slice none 0 0]
    rwa [World.size_alloc] at this
  have hB : Below w.heap.size w ((w.alloc (.cells #[.int .u16 t, .slice A n c] 82)).alloc (.cells #[.int .u16 0, .slice none 0 0] 82)) := ((Below.refl _ _).alloc (Nat.le_refl _) _).alloc (by simp) _
  obtain ⟨w2, hw2⟩ : ∃ w2, (w.alloc (.cells #[.int .u16 t, .slice A n c] 82)).alloc (.cells #[.int .u16 0, .slice none 0 0] 82) = w2 := ⟨_, rfl⟩
  rw [hw2] at hk1 hk2 hB
  have HW2 := Lib.hid hw2
  have htw := twin2_any A n c body w2.drew ((r.below hB).below (drew_belowB w2)) l hn
  have hs5 : (Tryz.prog.info? 82).map (·.size) = some 2 := by kernel_rfl
  have HTW := Lib.hid htw
  have HK1 := Lib.hid hk1
  have HK2 := Lib.hid hk2
  have HB := Lib.hid hB
  have HS5 := Lib.hid hs5
  have HL := Lib.hid r.len
  have c0 : w2.cell? ⟨w.heap.size, 0, none⟩ = some (.int .u16 t) := hk1.cell 0
  have c1 : w2.cell? ⟨w.heap.size, 1, none⟩ = some (.slice A n c) := hk1.cell 1
  clear hw2 hk1 hk2 hB htw hs5 r
  go_enter Tryz.func91, Tryz.ntmps91
  go_wp2_with fail
  rw [HW2.out]
  clear HW2
  obtain ⟨P, hP⟩ : ∃ P, w.heap.size = P := ⟨_, rfl⟩
  rw [hP] at HK1 HK2 HB c0 c1
  have HP := Lib.hid hP
  rw [hP]
  clear hP
  refine wp_region_noPanic ?_
  refine wp_region_held_drew (S := (fun w' => w'.cell? ⟨P, 0, none⟩ = some (.int .u16 t) ∧ w'.cell? ⟨P, 1, none⟩ = some (.slice A n c))) (by kernel_rfl) ?_ (fun hHeld => ?_)
  · ((try dsimp only); refine ⟨?_, ?_⟩ <;> (first | assumption | (go_keep; done)))
  refine wpAnyH_take (i := 0) (oi := ⟨some 3, _, _, _, _, _⟩) (v := ?_) rfl (by kernel_rfl) (by kernel_rfl) (by kernel_rfl) (fun _ _ _ h => False.elim h) (Or.inl ⟨by rfl, ?_⟩) (by assumption) ?_
  rotate_left
  · intro w hSw
    (try dsimp only at hSw)
    go_simp
    all_goals with_reducible rfl
  (try simp only [Act.put, List.setIfInBounds_toArray, List.set_cons_zero, List.set_cons_succ])
  refine wpAnyH_take (i := 1) (oi := ⟨some 4, _, _, _, _, _⟩) (v := ?_) rfl (by kernel_rfl) (by kernel_rfl) (by kernel_rfl) (fun _ _ _ h => False.elim h) (Or.inl ⟨by rfl, ?_⟩) (by assumption) ?_
  rotate_left
  · intro w hSw
    (try dsimp only at hSw)
    go_simp
    all_goals with_reducible rfl
  (try simp only [Act.put, List.setIfInBounds_toArray, List.set_cons_zero, List.set_cons_succ])
  refine wpAnyH_take (i := 2) (oi := ⟨some 5, _, _, _, _, _⟩) (v := ?_) rfl (by kernel_rfl) (by kernel_rfl) (by kernel_rfl) (fun _ _ _ h => False.elim h) (Or.inl ⟨by rfl, ?_⟩) (by assumption) ?_
  rotate_left
  · intro w hSw
    (try dsimp only at hSw)
    go_simp
    all_goals with_reducible rfl
  (try simp only [Act.put, List.setIfInBounds_toArray, List.set_cons_zero, List.set_cons_succ])
  refine wpAnyH_take (i := 3) (oi := ⟨some 6, _, _, _, _, _⟩) (v := ?_) rfl (by kernel_rfl) (by kernel_rfl) (by kernel_rfl) (fun _ _ _ h => False.elim h) (Or.inl ⟨by rfl, ?_⟩) (by assumption) ?_
  rotate_left
  · intro w hSw
    (try dsimp only at hSw)
    go_simp
    all_goals with_reducible rfl
  (try simp only [Act.put, List.setIfInBounds_toArray, List.set_cons_zero, List.set_cons_succ])
  refine wpAnyH_ready (rs := [4]) (by kernel_rfl) (by simp) ?_
  refine AllReadyH.cons (o := ⟨some 7, _, _, _, _, _⟩) rfl (fun K hK => ?_) AllReadyH.nil
  go_simp
  (refine HTW.out.mono ?_; rintro e wm ⟨g, cap, rfl, h2, h3, h4, h5, h6, h7⟩; have k0 : wm.cell? ⟨P, 0, none⟩ = some (.int .u16 t) := (h7.cell (p := ⟨P, 0, none⟩) HK1.out.lt).trans (HK1.out.cell 0); have k1 : wm.cell? ⟨P, 1, none⟩ = some (.slice A n c) := (h7.cell (p := ⟨P, 1, none⟩) HK1.out.lt).trans (HK1.out.cell 1); have HKM := Lib.hid (HK2.out.drew.below h7 HK2.out.lt); have HZ : Hid (∀ vs, (wm.setCells (P + 1) 0 vs).cell? ⟨P, 0, none⟩ = some (.int .u16 t) ∧ (wm.setCells (P + 1) 0 vs).cell? ⟨P, 1, none⟩ = some (.slice A n c)) := Lib.hid (fun vs => ⟨((Keeps.setCells (g := P + 1) vs 0 wm).cell (p := ⟨P, 0, none⟩) (World.block_lt_of_cell? _ _ k0) (by simp)).trans k0, ((Keeps.setCells (g := P + 1) vs 0 wm).cell (p := ⟨P, 1, none⟩) (World.block_lt_of_cell? _ _ k1) (by simp)).trans k1⟩); have HROW := Lib.hid (And.intro h2 (And.intro h3 (And.intro h4 (And.intro h5 (And.intro h6 h7))))); clear h2 h3 h4 h5 h6 h7)
  (try go_wp2_with fail)
  refine hK.out _ _ ?_ (fun hHeld => ?_)
  · ((try dsimp only); refine ⟨?_, ?_⟩ <;> (first | assumption | (go_keep; done)))
  clear hK K
  (try simp only [Act.put, List.setIfInBounds_toArray, List.set_cons_zero, List.set_cons_succ])
  refine wpAnyH_take (i := 5) (oi := ⟨some 8, _, _, _, _, _⟩) (v := .agg #[.int .u16 t, .slice (some ⟨g, 0, none⟩) body.length cap]) rfl (by kernel_rfl) (by kernel_rfl) (by kernel_rfl) (fun _ _ _ h => False.elim h) ?_ (by assumption) ?_
  · exact yieldsIf_buildG (by rfl) 82 _ rfl _ (fun W => by kernel_rfl)
  (try simp only [Act.put, List.setIfInBounds_toArray, List.set_cons_zero, List.set_cons_succ])
  refine wpAnyH_ready (rs := [6]) (by kernel_rfl) (by simp) ?_
  refine AllReadyH.cons (o := ⟨none, _, _, _, _, _⟩) rfl (fun K hK => ?_) AllReadyH.nil
  (refine step_store_row rfl 82 _ _ rfl (P + 1) 0 #[.int .u16 t, .slice (some ⟨g, 0, none⟩) body.length cap] rfl rfl (HKM.out.there 0 2 (Nat.le_refl 2)) HS5.out (by kernel_rfl) ?_; obtain ⟨z0, z1⟩ := HZ.out [.int .u16 t, .slice (some ⟨g, 0, none⟩) body.length cap])
  refine hK.out _ _ ?_ (fun hHeld => ?_)
  · ((try dsimp only); refine ⟨?_, ?_⟩ <;> (first | assumption | (go_keep; done)))
  clear hK K
  (try simp only [Act.put, List.setIfInBounds_toArray, List.set_cons_zero, List.set_cons_succ])
  refine wpAnyH_done (by kernel_rfl) ?_ _
  refine NoPanic.normal ?_
  go_wp2_with fail
  obtain ⟨h2, h3, h4, h5, h6, h7⟩ := HROW.out
  have h4 : w2.heap.size ≤ g := h4
  have hset : Keeps (· = P + 1) wm (wm.setCells (P + 1) 0 [.int .u16 t, .slice (some ⟨g, 0, none⟩) body.length cap]) := Keeps.setCells _ _ _
  have hkf : Blk (wm.setCells (P + 1) 0 [.int .u16 t, .slice (some ⟨g, 0, none⟩) body.length cap]) (P + 1) 82 [.int .u16 t, .slice (some ⟨g, 0, none⟩) body.length cap] := by
    have := Blk.setCells [.int .u16 t, .slice (some ⟨g, 0, none⟩) body.length cap] 0 wm _ HKM.out (by simp)
    rwa [splice_whole [.int .u16 0, .slice none 0 0] [.int .u16 t, .slice (some ⟨g, 0, none⟩) body.length cap] rfl] at this
  have hpz : P + 1 < w2.heap.size := HK2.out.lt
  have hrow : TwinRow P wm (some ⟨g, 0, none⟩) body cap := ⟨g, rfl, h2, h3, Nat.le_trans (by omega) h4, h5, own_lower h6 (show P ≤ w2.heap.size by omega)⟩
  have hrow2 := hrow.keep hset (fun k cur _ hc e => by rw [e] at hc; exact absurd (ty_one hc HKM.out) (by decide))
  have hBm : Below P w wm := HB.out.trans (Below.mono (((drew_belowB w2)).trans h7) (show P ≤ w2.heap.size by omega))
  refine bodyPost_ret (results_cell_row rfl _ _ (P + 1) _ _ _ _ rfl hkf Tryz.underlying82 rfl (by kernel_rfl)) rfl ?_
  rw [HP.out]
  exact ⟨some ⟨g, 0, none⟩, cap, rfl, hrow2, below_keeps hBm hset (by rw [HP.out]; exact Nat.le_refl _) (fun i hi => by omega)⟩

/-- A list of pieces, twins; behind the list, and behind each body, there is a mark. -/
structure PsTwin (base : Nat) (w : World) (A : Option Addr) (ps : List Piece) (cap : Nat) (cells : List Value) : Prop where
  at_ : ∃ g, A = some ⟨g, 0, none⟩ ∧ base ≤ g ∧ g < w.heap.size
  capm : ps.length < cap ∧ cap ≤ maxLen
  row : w.ownsRow base 82 2 (.slice A (ps.length + 1) cap) (ps.length + 1) (cells ++ [.int .u16 77, .slice none 0 0])
  body : ∀ (j : Nat) (t : Int) (body : List Int), ps[j]? = some (t, body) → ∃ B c, cells[j * 2]? = some (.int .u16 t) ∧ cells[j * 2 + 1]? = some (.slice B body.length c) ∧ TwinRow base w B body c
  unlike : ∀ (i j g n c n' c' : Nat), i ≠ j → cells[i * 2 + 1]? = some (.slice (some ⟨g, 0, none⟩) n c) → cells[j * 2 + 1]? ≠ some (.slice (some ⟨g, 0, none⟩) n' c')
theorem PsTwin.len {base : Nat} {w : World} {A : Option Addr} {ps : List Piece} {cap : Nat} {cells : List Value} (h : PsTwin base w A ps cap cells) : cells.length = ps.length * 2 := by
  have := h.row.1
  simp at this; omega
theorem PsTwin.own {base : Nat} {w : World} {A : Option Addr} {ps : List Piece} {cap : Nat} {cells : List Value} (h : PsTwin base w A ps cap cells) : PsOwn base w (.slice A ps.length cap) ps cells := by
  have hl := h.len
  refine ⟨?_, fun j t body hj => ?_, h.unlike⟩
  · obtain ⟨g, rfl, hb, hg⟩ := h.at_
    rcases h.row.2 with ⟨e, _⟩ | ⟨g', cap', cur, e, hb', hh, hc, hm, hs, ht⟩
    · cases e
    · injection e with e1 _ e3
      injection e1 with e1
      injection e1 with e1 _ _
      subst e1; subst e3
      refine RowG.of_own ⟨hl, .inr ⟨g, cap, cur, rfl, hb, hh, by omega, hm, hs, ?_⟩⟩
      have := congrArg (List.take (ps.length * 2)) ht
      rw [List.take_take, show min (ps.length * 2) ((ps.length + 1) * 2) = ps.length * 2 by omega, List.take_append_of_le_length (by omega), List.take_of_length_le (show cells.length ≤ ps.length * 2 by omega)] at this
      exact this
  · obtain ⟨B, c, h1, h2, h3⟩ := h.body j t body hj
    exact ⟨B, c, h1, h2, h3.row⟩
theorem PsTwin.keep {M : Nat → Prop} {base : Nat} {w w' : World} {A : Option Addr} {ps : List Piece} {cap : Nat} {cells : List Value} (h : PsTwin base w A ps cap cells) (hk : Keeps M w w') (hM : ∀ k cur, base ≤ k → (w.heap[k]? = some (.cells cur 5 (0, 0)) ∨ w.heap[k]? = some (.cells cur 82 (0, 0))) → ¬ M k) : PsTwin base w' A ps cap cells := by
  obtain ⟨g, h1, h2, h3⟩ := h.at_
  refine ⟨⟨g, h1, h2, Nat.lt_of_lt_of_le h3 hk.size⟩, h.capm, hk.own h.row (fun k hk2 => by obtain ⟨h1, _, cur, h2⟩ := own_type h.row hk2; exact hM k cur h1 (.inr h2)), fun j t body hj => ?_, h.unlike⟩
  obtain ⟨B, c, h1, h2, h3⟩ := h.body j t body hj
  exact ⟨B, c, h1, h2, h3.keep hk (fun k cur hb hc => hM k cur hb (.inl hc))⟩
theorem PsTwin.below {base : Nat} {w w' : World} {A : Option Addr} {ps : List Piece} {cap : Nat} {cells : List Value} (h : PsTwin base w A ps cap cells) (hB : Below w.heap.size w w') : PsTwin base w' A ps cap cells := h.keep (Keeps.of_below (M := fun _ => False) hB) (fun _ _ _ _ h => h)

theorem info_paramT : (Tryz.prog.info? 82).map (fun i => (i.zero, i.size, i.bytes)) = some (some (.agg #[.int .u16 0, .slice none 0 0]), 2, 32) := by kernel_rfl
/-- s[:m] of pieces. -/
theorem slice_toP (W : World) (A : Option Addr) (len c m : Nat) (h : m ≤ c) : (Instr.slice 25 (.slice A len c) none (some (.int .i64 (m : Int))) none).run Tryz.prog W = .ok (.slice A m c) W := by
  rw [run_slice_h W 25 A len c (by kernel_rfl) .i64 (m : Int) (by omega) (by omega), show (sizeOf (Tryz.prog.elem 25)).run Tryz.prog W = .ok 2 W from by kernel_rfl]
  simp only [Result.andThen, sliced]
  have h0 : ∀ ad : Addr, ad.add 0 = ad := fun ad => by cases ad; unfold Addr.add; split <;> simp_all
  cases A with
  | none => simp
  | some ad => simp [h0]
/-- The twins so far. -/
structure TwinsAt (base : Nat) (w : World) (v : Value) (ps : List Piece) (cells : List Value) : Prop where
  row : w.ownsRow base 82 2 v ps.length cells
  body : ∀ (j : Nat) (t : Int) (body : List Int), ps[j]? = some (t, body) → ∃ B c, cells[j * 2]? = some (.int .u16 t) ∧ cells[j * 2 + 1]? = some (.slice B body.length c) ∧ TwinRow base w B body c
  unlike : ∀ (i j g n c n' c' : Nat), i ≠ j → cells[i * 2 + 1]? = some (.slice (some ⟨g, 0, none⟩) n c) → cells[j * 2 + 1]? ≠ some (.slice (some ⟨g, 0, none⟩) n' c')
  old : ∀ (i g n c : Nat), cells[i * 2 + 1]? = some (.slice (some ⟨g, 0, none⟩) n c) → g < w.heap.size
theorem TwinsAt.below {base : Nat} {w w' : World} {v : Value} {ps : List Piece} {cells : List Value} (h : TwinsAt base w v ps cells) (hB : Below w.heap.size w w') : TwinsAt base w' v ps cells := by
  refine ⟨(Keeps.of_below (M := fun _ => False) hB).own h.row (fun _ _ h => h), fun j t body hj => ?_, h.unlike, fun i g n c hi => Nat.lt_of_lt_of_le (h.old i g n c hi) hB.size⟩
  obtain ⟨B, c, h1, h2, h3⟩ := h.body j t body hj
  exact ⟨B, c, h1, h2, h3.below hB⟩
theorem TwinsAt.snoc {base m : Nat} {w w1 : World} {v v1 : Value} {ps : List Piece} {cells : List Value} {t : Int} {body : List Int} {B : Option Addr} {c : Nat} (h : TwinsAt base w v ps cells) (hb : TwinRow m w B body c) (hbm : base ≤ m)
    (hnew : ∀ (i g n c : Nat), cells[i * 2 + 1]? = some (.slice (some ⟨g, 0, none⟩) n c) → g < m)
    (ho1 : w1.ownsRow base 82 2 v1 (ps.length + 1) (cells ++ [.int .u16 t, .slice B body.length c])) (hk : Keeps (fun i => v.ownBlock = some i) w w1) : TwinsAt base w1 v1 (ps ++ [(t, body)]) (cells ++ [.int .u16 t, .slice B body.length c]) := by
  have hcl : cells.length = ps.length * 2 := h.row.1
  have hM : ∀ k cur, w.heap[k]? = some (.cells cur 5 (0, 0)) → ¬ v.ownBlock = some k := fun k cur hc hv => by
    obtain ⟨_, _, cur2, hc2⟩ := own_type h.row hv
    exact absurd (ty_one hc hc2) (by decide)
  obtain ⟨gb, rfl, hb2, hb3, hb4, hb5, hb6⟩ := hb
  have at1 : ∀ i, i < ps.length → (cells ++ [Value.int .u16 t, .slice (some ⟨gb, 0, none⟩) body.length c])[i * 2 + 1]? = cells[i * 2 + 1]? := fun i hi => List.getElem?_append_left (by omega)
  have at2 : (cells ++ [Value.int .u16 t, .slice (some ⟨gb, 0, none⟩) body.length c])[ps.length * 2 + 1]? = some (.slice (some ⟨gb, 0, none⟩) body.length c) := by
    rw [List.getElem?_append_right (by omega), hcl, show ps.length * 2 + 1 - ps.length * 2 = 1 by omega]; rfl
  have lt : ∀ i u, (cells ++ [Value.int .u16 t, .slice (some ⟨gb, 0, none⟩) body.length c])[i * 2 + 1]? = some u → i < ps.length ∨ i = ps.length := fun i u hi => by
    have := (List.getElem?_eq_some_iff.1 hi).1
    simp at this; omega
  refine ⟨by simpa using ho1, fun j t' body' hj => ?_, fun i j g n c1 n' c2 hne h1 h2 => ?_, fun i g n c1 h1 => ?_⟩
  · rcases Nat.lt_or_ge j ps.length with h4 | h4
    · rw [List.getElem?_append_left h4] at hj
      obtain ⟨B', c', h1, h2, h3⟩ := h.body j t' body' hj
      exact ⟨B', c', by rw [List.getElem?_append_left (by omega)]; exact h1, by rw [List.getElem?_append_left (by omega)]; exact h2, h3.keep hk (fun k cur _ hc => hM k cur hc)⟩
    · have hj' : j = ps.length := by
        have := (List.getElem?_eq_some_iff.1 hj).1
        simp at this; omega
      subst hj'
      simp only [List.getElem?_append_right (Nat.le_refl _), Nat.sub_self, List.getElem?_cons_zero, Option.some.injEq, Prod.mk.injEq] at hj
      obtain ⟨rfl, rfl⟩ := hj
      refine ⟨some ⟨gb, 0, none⟩, c, ?_, at2, (TwinRow.keep ⟨gb, rfl, hb2, hb3, Nat.le_trans hbm hb4, hb5, own_lower hb6 hbm⟩ hk (fun k cur _ hc => hM k cur hc))⟩
      rw [List.getElem?_append_right (by omega), hcl, Nat.sub_self]; rfl
  · rcases lt i _ h1 with h3 | h3 <;> rcases lt j _ h2 with h4 | h4
    · rw [at1 i h3] at h1
      rw [at1 j h4] at h2
      exact h.unlike i j g n c1 n' c2 hne h1 h2
    · subst h4
      rw [at1 i h3] at h1
      rw [at2] at h2
      injection h2 with h2
      injection h2 with h2 _ _
      injection h2 with h2
      injection h2 with h2 _ _
      have := hnew i g n c1 h1
      omega
    · subst h3
      rw [at1 j h4] at h2
      rw [at2] at h1
      injection h1 with h1
      injection h1 with h1 _ _
      injection h1 with h1
      injection h1 with h1 _ _
      have := hnew j g n' c2 h2
      omega
    · omega
  · rcases lt i _ h1 with h3 | h3
    · rw [at1 i h3] at h1
      exact Nat.lt_of_lt_of_le (h.old i g n c1 h1) hk.size
    · subst h3
      rw [at2] at h1
      injection h1 with h1
      injection h1 with h1 _ _
      injection h1 with h1
      injection h1 with h1 _ _
      have := hk.size
      omega

set_option maxRecDepth 100000 in
set_option maxHeartbeats 2000000 in
theorem twinps_any (A : Option Addr) (n c : Nat) (ps : List Piece) (w : World) (hps : Ps w A n ps) (hlen : ∀ p ∈ ps, p.2.length ≤ 70368744177664) (hn : n < 1099511627776) :
    Calls Tryz.prog 23 #[.slice A n c] w fun e w' => ∃ B cap cells, e = .returned (.slice B n cap) ∧ PsTwin w.heap.size w' B ps cap cells ∧ Below w.heap.size w w' := by
  have hl := hps.len
  obtain ⟨i0, hi, hzz⟩ := Option.map_eq_some_iff.1 info_paramT
  simp only [Prod.mk.injEq] at hzz
  obtain ⟨hz0, hz1, hz2⟩ := hzz
  obtain ⟨w1, hmk, hown, hg⟩ := run_make_own (P := Tryz.prog) w w.heap.size 25 82 i0 (.agg #[.int .u16 0, .slice none 0 0]) 2 Tryz.underlying25 hi hz0 hz1 .i64 .i64 (n + 1) (by rw [hz2]; omega) (by unfold maxLen; omega) (Nat.le_refl _)
  have hB1 : Below w.heap.size w w1 := ⟨hg.os, hg.tape, hg.output, hg.size, fun i hi => hg.block i hi (by simp)⟩
  have hst : TwinsAt w.heap.size w1 (.slice (some ⟨w.heap.size, 0, none⟩) 0 (n + 1)) [] [] := ⟨hown, fun j t body h => by simp at h, fun i j g n c n' c' _ h => by simp at h, fun i g n c h => by simp at h⟩
  have HST := Lib.hid hst
  have HB := Lib.hid hB1
  have HPS := Lib.hid hps
  have HLEN := Lib.hid hlen
  clear hst hown hg hi hz0 hz1 hz2 hB1 hps hlen
  have e1 : ((n + 1 : Nat) : Int) = (n : Int) + 1 := by omega
  rw [e1] at hmk
  go_enter Tryz.func23, Tryz.ntmps23
  go_wp2_with fail
  go_loopw [3, 4] (fun t i wr => ∃ k : Nat, k ≤ n ∧ i = .int .i64 k ∧ (∃ cells, TwinsAt w.heap.size wr t (ps.take k) cells) ∧ Below w.heap.size w wr) (fun _ i _ => n - (intOf i).toNat)
  case atStart => exact ⟨0, Nat.zero_le _, rfl, ⟨[], HST.out⟩, HB.out⟩
  case round =>
    obtain ⟨k, hk, rfl, ⟨cells, ho⟩, hB⟩ := hrel
    obtain ⟨AA, cc, rfl, -, -, -⟩ := own_slice ho.row
    have htl : (ps.take k).length = k := by rw [List.length_take]; omega
    rw [htl] at ho ⊢
    by_cases hlt : k < n
    · obtain ⟨b, off, rfl, hb, hc⟩ := (HPS.out.below hB).row (by omega)
      obtain ⟨t, body, B1, m1, d1, h1, h2, h3, h4, h5, h6, h7⟩ := hc k hlt
      have hbl := HLEN.out _ (List.mem_of_getElem? h1)
      obtain rfl : body.length = m1 := h5.len
      have htw := twinp_any t B1 body.length d1 body wr h5 h6 (by simpa using hbl)
      have htk : ps.take (k + 1) = ps.take k ++ [(t, body)] := by
        have := (List.getElem?_eq_some_iff.1 h1)
        rw [List.take_succ_eq_append_getElem this.1, this.2]
      have i0 : (0 : Int) ≤ (k : Int) := by omega
      have i1 : (k : Int) < (n : Int) := by omega
      have HTK := Lib.hid htk
      have HO := Lib.hid ho
      have HBB := Lib.hid hB
      have HTW := Lib.hid htw
      have HTL := Lib.hid htl
      clear htk ho hB hc hmk htw h5 h1 h7 htl
      go_wp2_with fail
      refine HTW.out.mono ?_; rintro e w2 ⟨B, cb, rfl, hrow, hB2⟩
      have ho2 := HO.out.below hB2
      have HO2 := Lib.hid ho2
      have HROW := Lib.hid hrow
      have HB2 := Lib.hid (HBB.out.trans (hB2.mono HBB.out.size))
      have HOLD : Hid (∀ (i g n c : Nat), cells[i * 2 + 1]? = some (.slice (some ⟨g, 0, none⟩) n c) → g < wr.heap.size) := Lib.hid HO.out.old
      have hor := ho2.row
      rw [HTL.out] at hor
      have HOR := Lib.hid hor
      clear hrow hB2 ho2 HO hor
      go_wp2_with (at_builtin; refine append_one (W := w2) w.heap.size rfl _ _ 25 82 (.agg #[.int .u16 0, .slice none 0 0]) 2 32 rfl Tryz.underlying25 info_paramT rfl (by omega) (by omega) (.slice AA k cc) k cells [.int .u16 t, .slice B body.length cb] rfl rfl rfl (by simp [Value.oneCell']) HOR.out HB2.out.size (by omega) ?_; intro v1 w3 ho3 hk3 hb3)
      go_roundw
      case rel =>
        have hsn := HO2.out.snoc HROW.out HBB.out.size HOLD.out (by rw [HTL.out]; exact ho3) hk3
        refine ⟨k + 1, by omega, by go_num, ⟨_, by rw [HTK.out]; exact hsn⟩, ?_⟩
        exact below_keeps HB2.out hk3 (Nat.le_refl _) (fun i hi => (own_base HOR.out i hi).1)
      case measure => simp [intOf]; omega
    · obtain rfl : k = n := by omega
      have HO := Lib.hid ho
      have HBB := Lib.hid hB
      have HTL := Lib.hid htl
      have hor := ho.row
      rw [htl] at hor
      have HOR := Lib.hid hor
      clear ho hB hmk htl hor
      go_wp2_with (at_builtin; refine append_one (W := wr) w.heap.size rfl _ _ 25 82 (.agg #[.int .u16 0, .slice none 0 0]) 2 32 rfl Tryz.underlying25 info_paramT rfl (by omega) (by omega) (.slice AA k cc) k cells [.int .u16 77, .slice none 0 0] rfl rfl rfl (by simp [Value.oneCell']) HOR.out HBB.out.size (by omega) ?_; intro v1 w2 ho2 hk2 hb2; obtain ⟨A3, c3, rfl, hc3, hm3, hp3⟩ := own_slice ho2; obtain ⟨g, rfl, hg, hlt2, hob⟩ := hp3 (by omega); have hsl := fun W => slice_toP W (some ⟨g, 0, none⟩) (k + 1) c3 k (by omega); have HX := Lib.hid (And.intro hc3 (And.intro hm3 (And.intro hg hlt2))); have HO3 := Lib.hid ho2; have HK2 := Lib.hid hk2; clear hc3 hm3 hp3 hg hlt2 ho2 hk2 hob)
      obtain ⟨hc3, hm3, hg, hlt2⟩ := HX.out
      have htl := HTL.out
      have htps : ps.take k = ps := List.take_of_length_le (by omega)
      have HB2 := below_keeps HBB.out HK2.out (Nat.le_refl _) (fun i hi => (own_base HOR.out i hi).1)
      have hM : ∀ x cur, wr.heap[x]? = some (.cells cur 5 (0, 0)) → ¬ (Value.slice AA k cc).ownBlock = some x := fun x cur hc hv => by
        obtain ⟨_, _, cur2, hc2⟩ := own_type HOR.out hv
        exact absurd (ty_one hc hc2) (by decide)
      have hO := HO.out
      rw [htps] at hO
      go_ret
      refine ⟨some ⟨g, 0, none⟩, c3, cells, rfl, ⟨⟨g, rfl, hg, hlt2⟩, ⟨by omega, hm3⟩, by rw [hl]; exact HO3.out, fun j t body hj => ?_, hO.unlike⟩, HB2⟩
      obtain ⟨B, cb, h1, h2, h3⟩ := hO.body j t body hj
      exact ⟨B, cb, h1, h2, h3.keep HK2.out (fun x cur _ hc => hM x cur hc)⟩
end Go.Proofs.YtjikjdignhdipaaGreatDoor
