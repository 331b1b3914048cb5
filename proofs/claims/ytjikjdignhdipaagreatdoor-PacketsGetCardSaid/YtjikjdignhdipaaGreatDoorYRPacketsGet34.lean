/- What holds of a Book's lists in the course of Apart. Printed by mkbk.py; The walks over a Book's Params and Packet: the bodies, and the list. -/
import Derived.Test.YtjikjdignhdipaaGreatDoorYRPacketsGet30
import Derived.Test.YtjikjdignhdipaaGreatDoorYRPacketsGet9
import Derived.Test.YtjikjdignhdipaaGreatDoorYRPacketsGet31
import Derived.Test.YtjikjdignhdipaaGreatDoorYRPacketsGet33
namespace Go.Proofs.YtjikjdignhdipaaGreatDoor
open Go.RowKit
set_option linter.unusedSimpArgs false
set_option linter.unusedVariables false

/-- 0: the lists are there; 1: they are all marks; 2: more was put behind them. -/
structure KHolds (K : Kd) (base : Nat) (w : World) (H H' : Nat → List Hb) (p : Nat) : Prop where
  raw : p = 0 → ∀ (i : Nat) (h : Hb), (H K.i)[i]? = some h → ∃ cs, RowIs K base w h cs
  marked : p = 1 → ∀ (i : Nat) (h : Hb), (H K.i)[i]? = some h → RowIs K base w h (marksG K h.n h.len)
  same : p < 2 → H' K.i = H K.i
  grown : p = 2 → (H' K.i).length = (H K.i).length ∧ ∀ (i : Nat) (h : Hb), (H K.i)[i]? = some h → ∃ h', (H' K.i)[i]? = some h' ∧ ∃ w0, Grown K base w0 w h h'
  at0 : ∀ (i : Nat) (h : Hb), (H K.i)[i]? = some h → 0 < h.len → ∃ g, h.A = some ⟨g, 0, none⟩
  fine : Fine (H K.i)
theorem at0_of {K : Kd} {base : Nat} {w : World} {h : Hb} {cs : List Value} (hr : RowIs K base w h cs) (h0 : 0 < h.len) : ∃ g, h.A = some ⟨g, 0, none⟩ := by
  obtain ⟨g, c, e, _⟩ := RowG.at_ hr h0
  have e' : Value.slice h.A h.len h.cap = .slice (some ⟨g, 0, none⟩) h.len c := e
  injection e' with e' _ _
  exact ⟨g, e'⟩
section
variable {K K2 : Kd} {base : Nat} {w w' : World} {H H' H2 : Nat → List Hb} {p : Nat} {M : Nat → Prop}
theorem KHolds.start (hr : ∀ (i : Nat) (h : Hb), (H K.i)[i]? = some h → ∃ cs, RowIs K base w h cs) (hf : Fine (H K.i)) : KHolds K base w H H 0 :=
  ⟨fun _ => hr, fun h => by omega, fun _ => rfl, fun h => by omega, fun i h hi h0 => by
    obtain ⟨cs, hc⟩ := hr i h hi
    exact at0_of hc h0, hf⟩
theorem KHolds.far (h : KHolds K base w H H' p) (hk : Keeps M w w') (hM : ∀ i, M i → ByTy base K2.E w i ∨ ByTy base K2.H w i) (h1 : K.E ≠ K2.E) (h2 : K.E ≠ K2.H) (he : H2 K.i = H' K.i) : KHolds K base w' H H2 p := by
  have far : ∀ {k : Nat} {cur : Array Value}, k < w.heap.size → w.heap[k]? = some (.cells cur K.E (0, 0)) → ¬ M k := fun {k} {cur} hlt hc hm => by
    rcases hM k hm with (⟨_, cur2, hc2⟩ | h3) | (⟨_, cur2, hc2⟩ | h3)
    · exact h1 (ty_one hc hc2)
    · omega
    · exact h2 (ty_one hc hc2)
    · omega
  have rows : ∀ {h : Hb} {cs : List Value}, RowIs K base w h cs → RowIs K base w' h cs := fun hr => RowG.keep hr hk (fun k hk2 => by
    obtain ⟨_, h3, cur, hc⟩ := RowG.ty hr hk2
    exact far h3 hc)
  refine ⟨fun hp i x hx => ?_, fun hp i x hx => rows (h.marked hp i x hx), fun hp => he.trans (h.same hp), fun hp => ?_, h.at0, h.fine⟩
  · obtain ⟨cs, hc⟩ := h.raw hp i x hx
    exact ⟨cs, rows hc⟩
  · rw [he]
    refine ⟨(h.grown hp).1, fun i x hx => ?_⟩
    obtain ⟨x', e, w0, g⟩ := (h.grown hp).2 i x hx
    refine ⟨x', e, w0, g.keep hk (fun k hk2 => ?_) (fun k hk2 => ?_)⟩
    · obtain ⟨h3, ⟨cur, hc⟩, _⟩ := g.low k hk2
      exact far h3 hc
    · obtain ⟨_, h3, cur, hc⟩ := g.row.ty hk2
      exact far h3 hc
theorem KHolds.below (h : KHolds K base w H H' p) (hB : Below w.heap.size w w') : KHolds K base w' H H' p := by
  refine ⟨fun hp i x hx => ?_, fun hp i x hx => RowG.below (h.marked hp i x hx) hB, h.same, fun hp => ⟨(h.grown hp).1, fun i x hx => ?_⟩, h.at0, h.fine⟩
  · obtain ⟨cs, hc⟩ := h.raw hp i x hx
    exact ⟨cs, RowG.below hc hB⟩
  · obtain ⟨x', e, w0, g⟩ := (h.grown hp).2 i x hx
    exact ⟨x', e, w0, g.below hB⟩
theorem KHolds.filled (h : KHolds K base w H H' 0) (hr : ∀ (i : Nat) (h : Hb), (H K.i)[i]? = some h → RowIs K base w' h (marksG K h.n h.len)) : KHolds K base w' H H' 1 :=
  ⟨fun hp => by omega, fun _ => hr, fun _ => h.same (by omega), fun hp => by omega, h.at0, h.fine⟩
theorem KHolds.more (h : KHolds K base w H H' 1) (hl : (H2 K.i).length = (H' K.i).length) (hg : ∀ (i : Nat) (h : Hb), (H' K.i)[i]? = some h → ∃ h', (H2 K.i)[i]? = some h' ∧ Grown K base w w' h h') : KHolds K base w' H H2 2 := by
  have e := h.same (by omega)
  rw [e] at hl hg
  refine ⟨fun hp => by omega, fun hp => by omega, fun hp => by omega, fun _ => ⟨hl, fun i x hx => ?_⟩, h.at0, h.fine⟩
  obtain ⟨x', e', g⟩ := hg i x hx
  exact ⟨x', e', w, g⟩
theorem KHolds.seen (h : KHolds K base w H H' 2) : ∀ (i : Nat) (h' : Hb), (H' K.i)[i]? = some h' → ∃ h, Seen K base w h h' := fun i h' hi => by
  obtain ⟨hl, hg⟩ := h.grown rfl
  have hlt : i < (H K.i).length := by rw [← hl]; exact (List.getElem?_eq_some_iff.1 hi).1
  have hx : (H K.i)[i]? = some (H K.i)[i] := List.getElem?_eq_getElem hlt
  obtain ⟨x', e, w0, g⟩ := hg i _ hx
  rw [hi] at e
  injection e with e
  subst e
  exact ⟨_, g.is, g.row, g.low, h.at0 i _ hx, h.fine.n i _ hx, h.fine.len i _ hx⟩
end
theorem BookAt.nils {base B m : Nat} {w : World} {H : Nat → List Hb} (hb : BookAt base w B m H) (hn : ∀ k, k ≠ 1 → k ≠ 7 → k ≠ 10 → H k = []) : w.cell? ⟨B, 2, none⟩ = some (.slice none 0 0) ∧ w.cell? ⟨B, 3, none⟩ = some (.slice none 0 0) ∧ w.cell? ⟨B, 4, none⟩ = some (.slice none 0 0) ∧ w.cell? ⟨B, 5, none⟩ = some (.slice none 0 0) ∧ w.cell? ⟨B, 6, none⟩ = some (.slice none 0 0) ∧ w.cell? ⟨B, 8, none⟩ = some (.slice none 0 0) ∧ w.cell? ⟨B, 9, none⟩ = some (.slice none 0 0) ∧ w.cell? ⟨B, 11, none⟩ = some (.slice none 0 0) ∧ w.cell? ⟨B, 12, none⟩ = some (.slice none 0 0) ∧ w.cell? ⟨B, 13, none⟩ = some (.slice none 0 0) ∧ w.cell? ⟨B, 14, none⟩ = some (.slice none 0 0) ∧ w.cell? ⟨B, 15, none⟩ = some (.slice none 0 0) :=
  ⟨hb.nil (by omega) (by omega) (hn 2 (by omega) (by omega) (by omega)), hb.nil (by omega) (by omega) (hn 3 (by omega) (by omega) (by omega)), hb.nil (by omega) (by omega) (hn 4 (by omega) (by omega) (by omega)), hb.nil (by omega) (by omega) (hn 5 (by omega) (by omega) (by omega)), hb.nil (by omega) (by omega) (hn 6 (by omega) (by omega) (by omega)), hb.nil (by omega) (by omega) (hn 8 (by omega) (by omega) (by omega)), hb.nil (by omega) (by omega) (hn 9 (by omega) (by omega) (by omega)), hb.nil (by omega) (by omega) (hn 11 (by omega) (by omega) (by omega)), hb.nil (by omega) (by omega) (hn 12 (by omega) (by omega) (by omega)), hb.nil (by omega) (by omega) (hn 13 (by omega) (by omega) (by omega)), hb.nil (by omega) (by omega) (hn 14 (by omega) (by omega) (by omega)), hb.nil (by omega) (by omega) (hn 15 (by omega) (by omega) (by omega))⟩
end Go.Proofs.YtjikjdignhdipaaGreatDoor

namespace Go.Proofs.YtjikjdignhdipaaGreatDoor
open Go.RowKit
set_option linter.unusedSimpArgs false
set_option linter.unusedVariables false

theorem bytes_bk (base B m : Nat) (H : Nat → List Hb) (A : Option Addr) (n c : Nat) (w : World) (hb : BookAt base w B m H) (hbase : base ≤ w.heap.size) (hf : m < 30000) :
    Calls Tryz.prog 11 #[.pointer (some ⟨B, 0, none⟩), .slice A n c] w fun e w' => e = .returned (.tuple #[]) ∧ BookAt base w' B (m + 1) (upd H 1 (H 1 ++ [⟨A, n, c, none, 0, 0, m + 1⟩])) ∧ Keeps (ByBook base B 93 w) w w' := by
  have HK := Lib.hid (keepByte_any base B m H A n c w hb hbase hf)
  clear hb hbase hf
  go_enter Tryz.func11, Tryz.ntmps11
  go_wp2_with fail
  refine HK.out.mono ?_; rintro e w1 ⟨rfl, h1, h2⟩
  have H1 := Lib.hid h1
  have H2 := Lib.hid h2
  clear h1 h2
  go_wp2_with fail
  go_end0
  exact ⟨rfl, H1.out, H2.out⟩
theorem bparam_bk (base B m : Nat) (H : Nat → List Hb) (t : Int) (A : Option Addr) (n c : Nat) (w : World) (hb : BookAt base w B m H) (hbase : base ≤ w.heap.size) (hf : m < 30000) :
    Calls Tryz.prog 99 #[.pointer (some ⟨B, 0, none⟩), .agg #[.int .u16 t, .slice A n c]] w fun e w' => e = .returned (.tuple #[]) ∧ BookAt base w' B (m + 1) (upd H 1 (H 1 ++ [⟨A, n, c, none, 0, 0, m + 1⟩])) ∧ Keeps (ByBook base B 93 w) w w' := by
  have hB1 := new_belowB w (.cells #[.int .u16 t, .slice A n c] 82)
  have HK := Lib.hid (bytes_bk base B m H A n c _ (hb.below hB1) (Nat.le_trans hbase hB1.size) hf)
  have HB1 := Lib.hid hB1
  have HLT := Lib.hid hb.lt
  clear hb hbase hf hB1
  go_enter Tryz.func99, Tryz.ntmps99
  go_wp2_with fail
  refine HK.out.mono ?_; rintro e w1 ⟨rfl, h1, h2⟩
  have H1 := Lib.hid h1
  have H2 : Hid (Keeps (ByBook base B 93 w) w w1) := Lib.hid ((Keeps.of_below HB1.out).then_ h2 (fun i hi => by
    rcases hi with rfl | ⟨hb, cur, hc⟩ | hi
    · exact .inl (.inl rfl)
    · rcases Nat.lt_or_ge i w.heap.size with h9 | h9
      · exact .inl (.inr (.inl ⟨hb, cur, (HB1.out.block i h9).symm.trans hc⟩))
      · exact .inr h9
    · exact .inr (Nat.le_trans HB1.out.size hi)))
  clear h1 h2
  go_wp2_with fail
  go_end0
  exact ⟨rfl, H1.out, H2.out⟩
/-- A body's slice, as a Book holds it. -/
def hbOf (v : Option Value) (n : Nat) : Hb := match v with | some (.slice A l c) => ⟨A, l, c, none, 0, 0, n⟩ | _ => ⟨none, 0, 0, none, 0, 0, n⟩
/-- The bodies of pieces, as a Book holds them. -/
def bodyH (cells : List Value) (m k : Nat) : List Hb := (List.range k).map (fun j => hbOf cells[j * 2 + 1]? (m + 1 + j))
theorem bodyH_snoc (cells : List Value) (m k : Nat) : bodyH cells m (k + 1) = bodyH cells m k ++ [hbOf cells[k * 2 + 1]? (m + 1 + k)] := by simp [bodyH, List.range_succ]
theorem bodyH_at {cells : List Value} {m k i : Nat} {h : Hb} (hi : (bodyH cells m k)[i]? = some h) : i < k ∧ h = hbOf cells[i * 2 + 1]? (m + 1 + i) := by
  have hl := (List.getElem?_eq_some_iff.1 hi).1
  simp [bodyH] at hl
  refine ⟨hl, ?_⟩
  simp [bodyH, hl] at hi
  exact hi.symm
theorem upd_upd {α : Type} (f : Nat → α) (k : Nat) (u v : α) : upd (upd f k u) k v = upd f k v := by funext j; simp only [upd]; split <;> rfl

set_option maxRecDepth 100000 in
set_option maxHeartbeats 4000000 in
theorem bparams_bk (base base' B m : Nat) (H : Nat → List Hb) (A : Option Addr) (n c : Nat) (ps : List Piece) (cells : List Value) (w : World) (hb : BookAt base w B m H) (hbase : base ≤ w.heap.size) (ho : PsOwn base' w (.slice A n c) ps cells) (hn : ps.length = n) (hf : m + n + 1 ≤ 30000) :
    Calls Tryz.prog 32 #[.pointer (some ⟨B, 0, none⟩), .slice A n c] w fun e w' => e = .returned (.tuple #[]) ∧ BookAt base w' B (m + n + 1) (upd (upd H 1 (H 1 ++ bodyH cells m n)) 10 (H 10 ++ [⟨A, n, c, none, 0, 0, m + n + 1⟩])) ∧ Keeps (fun i => i = B ∨ ByTy base 93 w i ∨ ByTy base 133 w i) w w' := by
  have HB_ := Lib.hid hb
  have HO := Lib.hid ho
  have HBA := Lib.hid hbase
  have HN := Lib.hid hn
  have hno : n ≤ 30000 := by omega
  clear hb hbase ho hn
  go_enter Tryz.func32, Tryz.ntmps32
  go_wp2_with fail
  go_loopw [4] (fun s wr => ∃ k : Nat, k ≤ n ∧ s = .int .i64 k ∧ BookAt base wr B (m + k) (upd H 1 (H 1 ++ bodyH cells m k)) ∧ Keeps (ByBook base B 93 w) w wr) (fun s _ => n - (intOf s).toNat)
  case atStart =>
    refine ⟨0, Nat.zero_le _, rfl, ?_, Keeps.refl _ _⟩
    have e : upd H 1 (H 1 ++ bodyH cells m 0) = H := by
      funext j
      by_cases hj : j = 1
      · subst hj; simp [upd_same, bodyH]
      · rw [upd_ne _ _ hj]
    rw [e]
    exact HB_.out
  case round =>
    obtain ⟨k, hk, rfl, hbk, hkp⟩ := hrel
    by_cases hlt : k < n
    · obtain ⟨g, cg, hA, hnc, _, hg, hc, _⟩ := HO.out.row.at_ (by rw [HN.out]; omega)
      have hcl := HO.out.row.len
      rw [HN.out] at hcl
      have hA2 : A = some ⟨g, 0, none⟩ := by injection hA
      clear hA
      have hA := hA2
      clear hA2 hnc
      obtain ⟨p, hp⟩ : ∃ p, ps[k]? = some p := ⟨_, List.getElem?_eq_getElem (by rw [HN.out]; exact hlt)⟩
      obtain ⟨t, body⟩ := p
      obtain ⟨Bb, cb, h1, h2, _⟩ := HO.out.body k t body hp
      obtain ⟨_, _, curP, hcP⟩ := HO.out.row.ty (k := g) (by rw [hA]; rfl)
      have hgm : ¬ ByBook base B 93 w g := by
        rintro (rfl | ⟨_, cur, h3⟩ | h3)
        · obtain ⟨S, hS, _⟩ := HB_.out.box
          exact absurd (ty_one hcP hS) (by decide)
        · exact absurd (ty_one hcP h3) (by decide)
        · omega
      have c0 : wr.cell? ⟨g, k * 2, none⟩ = some (.int .u16 t) := (hkp.cell (p := ⟨g, k * 2, none⟩) hg hgm).trans (hc _ _ h1)
      have c1 : wr.cell? ⟨g, k * 2 + 1, none⟩ = some (.slice Bb body.length cb) := (hkp.cell (p := ⟨g, k * 2 + 1, none⟩) hg hgm).trans (hc _ _ h2)
      have hcall := bparam_bk base B (m + k) _ t Bb body.length cb wr hbk (Nat.le_trans HBA.out hkp.size) (by omega)
      rw [upd_same, upd_upd, List.append_assoc, show [(⟨Bb, body.length, cb, none, 0, 0, m + k + 1⟩ : Hb)] = [hbOf cells[k * 2 + 1]? (m + 1 + k)] by rw [h2]; simp [hbOf]; omega, ← bodyH_snoc] at hcall
      have HC := Lib.hid hcall
      have HKP := Lib.hid hkp
      subst hA
      have i0 : (0 : Int) ≤ (k : Int) := by omega
      have i1 : (k : Int) < (n : Int) := by omega
      have kadd : IntKind.i64.wrap ((k : Int) + 1) = (k : Int) + 1 := IntWalk.i64_in _ (by omega)
      clear hcall hkp hbk hc h1 h2 hp hgm hcP hcl
      go_wp2_with fail
      refine HC.out.mono ?_; rintro e w1 ⟨rfl, hb1, hk1⟩
      have HB1 := Lib.hid hb1
      have HK1 : Hid (Keeps (ByBook base B 93 w) w w1) := Lib.hid (HKP.out.then_ hk1 (fun i hi => by
        rcases hi with rfl | ⟨hbi, cur, hci⟩ | hi
        · exact .inl (.inl rfl)
        · rcases Nat.lt_or_ge i w.heap.size with h9 | h9
          · by_cases hm : ByBook base B 93 w i
            · exact .inl hm
            · exact .inl (.inr (.inl ⟨hbi, cur, (HKP.out.block i h9 hm).symm.trans hci⟩))
          · exact .inr h9
        · exact .inr (Nat.le_trans HKP.out.size hi)))
      clear hb1 hk1 HC HKP
      go_wp2_with fail
      go_roundw
      case rel => exact ⟨k + 1, by omega, by go_num, HB1.out, HK1.out⟩
      case measure => simp [intOf]; omega
    · obtain rfl : k = n := by omega
      have hcall := keepParam_any base B (m + k) _ A k c wr hbk (Nat.le_trans HBA.out hkp.size) (by omega)
      rw [upd_ne _ _ (show (10 : Nat) ≠ 1 by omega)] at hcall
      have HC := Lib.hid hcall
      have HKP := Lib.hid hkp
      clear hcall hkp hbk
      go_wp2_with fail
      refine HC.out.mono ?_; rintro e w1 ⟨rfl, hb1, hk1⟩
      have HB1 := Lib.hid hb1
      have HK1 : Hid (Keeps (fun i => i = B ∨ ByTy base 93 w i ∨ ByTy base 133 w i) w w1) := Lib.hid ((HKP.out.mono (fun i hi => by
        rcases hi with h | h
        · exact .inl h
        · exact .inr (.inl h))).then_ hk1 (fun i hi => by
        rcases hi with rfl | ⟨hbi, cur, hci⟩ | hi
        · exact .inl (.inl rfl)
        · rcases Nat.lt_or_ge i w.heap.size with h9 | h9
          · by_cases hm : ByBook base B 93 w i
            · rcases hm with h | h
              · exact .inl (.inl h)
              · exact .inl (.inr (.inl h))
            · exact .inl (.inr (.inr (.inl ⟨hbi, cur, (HKP.out.block i h9 hm).symm.trans hci⟩)))
          · exact .inr h9
        · exact .inr (Nat.le_trans HKP.out.size hi)))
      clear hb1 hk1 HC HKP
      go_wp2_with fail
      go_end0
      exact ⟨rfl, HB1.out, HK1.out⟩
end Go.Proofs.YtjikjdignhdipaaGreatDoor
