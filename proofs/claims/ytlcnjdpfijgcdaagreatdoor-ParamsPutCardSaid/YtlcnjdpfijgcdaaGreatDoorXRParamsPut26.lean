/- The walks over a Book's Params and Packet: the bodies, and the list; Lists that a Book may hold: all in blocks of their own, few, none too long. -/
import Derived.Test.YtlcnjdpfijgcdaaGreatDoorXRParamsPut7
import Derived.Test.YtlcnjdpfijgcdaaGreatDoorXRParamsPut23
import Derived.Test.YtlcnjdpfijgcdaaGreatDoorXRParamsPut25
namespace Go.Proofs.YtlcnjdpfijgcdaaGreatDoor
open Go.RowKit
set_option linter.unusedSimpArgs false
set_option linter.unusedVariables false

theorem bytes_bk (base B m : Nat) (H : Nat → List Hb) (A : Option Addr) (n c : Nat) (w : World) (hb : BookAt base w B m H) (hbase : base ≤ w.heap.size) (hf : m < 30000) :
    Calls Tryz.prog 9 #[.pointer (some ⟨B, 0, none⟩), .slice A n c] w fun e w' => e = .returned (.tuple #[]) ∧ BookAt base w' B (m + 1) (upd H 1 (H 1 ++ [⟨A, n, c, none, 0, 0, m + 1⟩])) ∧ Keeps (ByBook base B 103 w) w w' := by
  have HK := Lib.hid (keepByte_any base B m H A n c w hb hbase hf)
  clear hb hbase hf
  go_enter Tryz.func9, Tryz.ntmps9
  go_wp2_with fail
  refine HK.out.mono ?_; rintro e w1 ⟨rfl, h1, h2⟩
  have H1 := Lib.hid h1
  have H2 := Lib.hid h2
  clear h1 h2
  go_wp2_with fail
  go_end0
  exact ⟨rfl, H1.out, H2.out⟩
theorem bparam_bk (base B m : Nat) (H : Nat → List Hb) (t : Int) (A : Option Addr) (n c : Nat) (w : World) (hb : BookAt base w B m H) (hbase : base ≤ w.heap.size) (hf : m < 30000) :
    Calls Tryz.prog 24 #[.pointer (some ⟨B, 0, none⟩), .agg #[.int .u16 t, .slice A n c]] w fun e w' => e = .returned (.tuple #[]) ∧ BookAt base w' B (m + 1) (upd H 1 (H 1 ++ [⟨A, n, c, none, 0, 0, m + 1⟩])) ∧ Keeps (ByBook base B 103 w) w w' := by
  have hB1 := new_belowB w (.cells #[.int .u16 t, .slice A n c] 53)
  have HK := Lib.hid (bytes_bk base B m H A n c _ (hb.below hB1) (Nat.le_trans hbase hB1.size) hf)
  have HB1 := Lib.hid hB1
  have HLT := Lib.hid hb.lt
  clear hb hbase hf hB1
  go_enter Tryz.func24, Tryz.ntmps24
  go_wp2_with fail
  refine HK.out.mono ?_; rintro e w1 ⟨rfl, h1, h2⟩
  have H1 := Lib.hid h1
  have H2 : Hid (Keeps (ByBook base B 103 w) w w1) := Lib.hid ((Keeps.of_below HB1.out).then_ h2 (fun i hi => by
    rcases hi with rfl | ⟨hb, cur, hc⟩ | hi
    · exact .inl (.inl rfl)
    · rcases Nat.lt_or_ge i w.heap.size with h9 | h9
      · exact .inl (.inr (.inl ⟨hb, cur, (HB1.out.block i h9).symm.trans hc⟩))
      · exact .inr h9
    · exact .inr (Nat.le_trans HB1.out.size hi)))
  clear h1 h2
  go_wp2_with fail
  go_end0
  exact ⟨rfl, H1.out, H2.out⟩
/-- A body's slice, as a Book holds it. -/
def hbOf (v : Option Value) (n : Nat) : Hb := match v with | some (.slice A l c) => ⟨A, l, c, none, 0, 0, n⟩ | _ => ⟨none, 0, 0, none, 0, 0, n⟩
/-- The bodies of pieces, as a Book holds them. -/
def bodyH (cells : List Value) (m k : Nat) : List Hb := (List.range k).map (fun j => hbOf cells[j * 2 + 1]? (m + 1 + j))
theorem bodyH_snoc (cells : List Value) (m k : Nat) : bodyH cells m (k + 1) = bodyH cells m k ++ [hbOf cells[k * 2 + 1]? (m + 1 + k)] := by simp [bodyH, List.range_succ]
theorem bodyH_at {cells : List Value} {m k i : Nat} {h : Hb} (hi : (bodyH cells m k)[i]? = some h) : i < k ∧ h = hbOf cells[i * 2 + 1]? (m + 1 + i) := by
  have hl := (List.getElem?_eq_some_iff.1 hi).1
  simp [bodyH] at hl
  refine ⟨hl, ?_⟩
  simp [bodyH, hl] at hi
  exact hi.symm
theorem upd_upd {α : Type} (f : Nat → α) (k : Nat) (u v : α) : upd (upd f k u) k v = upd f k v := by funext j; simp only [upd]; split <;> rfl

set_option maxRecDepth 100000 in
set_option maxHeartbeats 4000000 in
theorem bparams_bk (base base' B m : Nat) (H : Nat → List Hb) (A : Option Addr) (n c : Nat) (ps : List Piece) (cells : List Value) (w : World) (hb : BookAt base w B m H) (hbase : base ≤ w.heap.size) (ho : PsOwn base' w (.slice A n c) ps cells) (hn : ps.length = n) (hf : m + n + 1 ≤ 30000) :
    Calls Tryz.prog 10 #[.pointer (some ⟨B, 0, none⟩), .slice A n c] w fun e w' => e = .returned (.tuple #[]) ∧ BookAt base w' B (m + n + 1) (upd (upd H 1 (H 1 ++ bodyH cells m n)) 10 (H 10 ++ [⟨A, n, c, none, 0, 0, m + n + 1⟩])) ∧ Keeps (fun i => i = B ∨ ByTy base 103 w i ∨ ByTy base 105 w i) w w' := by
  have HB_ := Lib.hid hb
  have HO := Lib.hid ho
  have HBA := Lib.hid hbase
  have HN := Lib.hid hn
  have hno : n ≤ 30000 := by omega
  clear hb hbase ho hn
  go_enter Tryz.func10, Tryz.ntmps10
  go_wp2_with fail
  go_loopw [4] (fun s wr => ∃ k : Nat, k ≤ n ∧ s = .int .i64 k ∧ BookAt base wr B (m + k) (upd H 1 (H 1 ++ bodyH cells m k)) ∧ Keeps (ByBook base B 103 w) w wr) (fun s _ => n - (intOf s).toNat)
  case atStart =>
    refine ⟨0, Nat.zero_le _, rfl, ?_, Keeps.refl _ _⟩
    have e : upd H 1 (H 1 ++ bodyH cells m 0) = H := by
      funext j
      by_cases hj : j = 1
      · subst hj; simp [upd_same, bodyH]
      · rw [upd_ne _ _ hj]
    rw [e]
    exact HB_.out
  case round =>
    obtain ⟨k, hk, rfl, hbk, hkp⟩ := hrel
    by_cases hlt : k < n
    · obtain ⟨g, cg, hA, hnc, _, hg, hc, _⟩ := HO.out.row.at_ (by rw [HN.out]; omega)
      have hcl := HO.out.row.len
      rw [HN.out] at hcl
      have hA2 : A = some ⟨g, 0, none⟩ := by injection hA
      clear hA
      have hA := hA2
      clear hA2 hnc
      obtain ⟨p, hp⟩ : ∃ p, ps[k]? = some p := ⟨_, List.getElem?_eq_getElem (by rw [HN.out]; exact hlt)⟩
      obtain ⟨t, body⟩ := p
      obtain ⟨Bb, cb, h1, h2, _⟩ := HO.out.body k t body hp
      obtain ⟨_, _, curP, hcP⟩ := HO.out.row.ty (k := g) (by rw [hA]; rfl)
      have hgm : ¬ ByBook base B 103 w g := by
        rintro (rfl | ⟨_, cur, h3⟩ | h3)
        · obtain ⟨S, hS, _⟩ := HB_.out.box
          exact absurd (ty_one hcP hS) (by decide)
        · exact absurd (ty_one hcP h3) (by decide)
        · omega
      have c0 : wr.cell? ⟨g, k * 2, none⟩ = some (.int .u16 t) := (hkp.cell (p := ⟨g, k * 2, none⟩) hg hgm).trans (hc _ _ h1)
      have c1 : wr.cell? ⟨g, k * 2 + 1, none⟩ = some (.slice Bb body.length cb) := (hkp.cell (p := ⟨g, k * 2 + 1, none⟩) hg hgm).trans (hc _ _ h2)
      have hcall := bparam_bk base B (m + k) _ t Bb body.length cb wr hbk (Nat.le_trans HBA.out hkp.size) (by omega)
      rw [upd_same, upd_upd, List.append_assoc, show [(⟨Bb, body.length, cb, none, 0, 0, m + k + 1⟩ : Hb)] = [hbOf cells[k * 2 + 1]? (m + 1 + k)] by rw [h2]; simp [hbOf]; omega, ← bodyH_snoc] at hcall
      have HC := Lib.hid hcall
      have HKP := Lib.hid hkp
      subst hA
      have i0 : (0 : Int) ≤ (k : Int) := by omega
      have i1 : (k : Int) < (n : Int) := by omega
      have kadd : IntKind.i64.wrap ((k : Int) + 1) = (k : Int) + 1 := IntWalk.i64_in _ (by omega)
      clear hcall hkp hbk hc h1 h2 hp hgm hcP hcl
      go_wp2_with fail
      refine HC.out.mono ?_; rintro e w1 ⟨rfl, hb1, hk1⟩
      have HB1 := Lib.hid hb1
      have HK1 : Hid (Keeps (ByBook base B 103 w) w w1) := Lib.hid (HKP.out.then_ hk1 (fun i hi => by
        rcases hi with rfl | ⟨hbi, cur, hci⟩ | hi
        · exact .inl (.inl rfl)
        · rcases Nat.lt_or_ge i w.heap.size with h9 | h9
          · by_cases hm : ByBook base B 103 w i
            · exact .inl hm
            · exact .inl (.inr (.inl ⟨hbi, cur, (HKP.out.block i h9 hm).symm.trans hci⟩))
          · exact .inr h9
        · exact .inr (Nat.le_trans HKP.out.size hi)))
      clear hb1 hk1 HC HKP
      go_wp2_with fail
      go_roundw
      case rel => exact ⟨k + 1, by omega, by go_num, HB1.out, HK1.out⟩
      case measure => simp [intOf]; omega
    · obtain rfl : k = n := by omega
      have hcall := keepParam_any base B (m + k) _ A k c wr hbk (Nat.le_trans HBA.out hkp.size) (by omega)
      rw [upd_ne _ _ (show (10 : Nat) ≠ 1 by omega)] at hcall
      have HC := Lib.hid hcall
      have HKP := Lib.hid hkp
      clear hcall hkp hbk
      go_wp2_with fail
      refine HC.out.mono ?_; rintro e w1 ⟨rfl, hb1, hk1⟩
      have HB1 := Lib.hid hb1
      have HK1 : Hid (Keeps (fun i => i = B ∨ ByTy base 103 w i ∨ ByTy base 105 w i) w w1) := Lib.hid ((HKP.out.mono (fun i hi => by
        rcases hi with h | h
        · exact .inl h
        · exact .inr (.inl h))).then_ hk1 (fun i hi => by
        rcases hi with rfl | ⟨hbi, cur, hci⟩ | hi
        · exact .inl (.inl rfl)
        · rcases Nat.lt_or_ge i w.heap.size with h9 | h9
          · by_cases hm : ByBook base B 103 w i
            · rcases hm with h | h
              · exact .inl (.inl h)
              · exact .inl (.inr (.inl h))
            · exact .inl (.inr (.inr (.inl ⟨hbi, cur, (HKP.out.block i h9 hm).symm.trans hci⟩)))
          · exact .inr h9
        · exact .inr (Nat.le_trans HKP.out.size hi)))
      clear hb1 hk1 HC HKP
      go_wp2_with fail
      go_end0
      exact ⟨rfl, HB1.out, HK1.out⟩
end Go.Proofs.YtlcnjdpfijgcdaaGreatDoor

namespace Go.Proofs.YtlcnjdpfijgcdaaGreatDoor
open Go.RowKit
set_option linter.unusedSimpArgs false
set_option linter.unusedVariables false

theorem fine_nil : Fine [] := ⟨fun i j a b h => by simp at h, fun i h hi => by simp at hi, fun i h hi => by simp at hi⟩
theorem fine_one {h : Hb} (hn : 1 ≤ h.n ∧ h.n ≤ 30000) (hl : h.len ≤ 274877906944) : Fine [h] := by
  have one : ∀ {i : Nat} {x : Hb}, [h][i]? = some x → i = 0 ∧ x = h := fun {i} {x} hi => by
    rcases i with _ | i
    · exact ⟨rfl, by simpa using hi.symm⟩
    · simp at hi
  refine ⟨fun i j a b hi hj hne => ?_, fun i x hi => ?_, fun i x hi => ?_⟩
  · have := (one hi).1; have := (one hj).1; omega
  · rw [(one hi).2]; exact hn
  · rw [(one hi).2]; exact hl
theorem fine_append {l m : List Hb} (h1 : Fine l) (h2 : Fine m) (hd : ∀ a ∈ l, ∀ b ∈ m, ∀ k, a.l.ownBlock = some k → b.l.ownBlock ≠ some k) : Fine (l ++ m) := by
  have at_ : ∀ {i : Nat} {x : Hb}, (l ++ m)[i]? = some x → (i < l.length ∧ l[i]? = some x) ∨ (l.length ≤ i ∧ m[i - l.length]? = some x) := fun {i} {x} hi => by
    rcases Nat.lt_or_ge i l.length with h | h
    · rw [List.getElem?_append_left h] at hi; exact .inl ⟨h, hi⟩
    · rw [List.getElem?_append_right h] at hi; exact .inr ⟨h, hi⟩
  refine ⟨fun i j a b hi hj hne k hk hk2 => ?_, fun i x hi => ?_, fun i x hi => ?_⟩
  · rcases at_ hi with ⟨h3, h4⟩ | ⟨h3, h4⟩ <;> rcases at_ hj with ⟨h5, h6⟩ | ⟨h5, h6⟩
    · exact h1.unlike i j a b h4 h6 hne k hk hk2
    · exact hd a (List.mem_of_getElem? h4) b (List.mem_of_getElem? h6) k hk hk2
    · exact hd b (List.mem_of_getElem? h6) a (List.mem_of_getElem? h4) k hk2 hk
    · exact h2.unlike _ _ a b h4 h6 (by omega) k hk hk2
  · rcases at_ hi with ⟨_, h4⟩ | ⟨_, h4⟩
    · exact h1.n _ x h4
    · exact h2.n _ x h4
  · rcases at_ hi with ⟨_, h4⟩ | ⟨_, h4⟩
    · exact h1.len _ x h4
    · exact h2.len _ x h4
/-- A body in a Book is a row of the call's own. -/
theorem body_row {base : Nat} {w : World} {v : Value} {ps : List Piece} {cells : List Value} {m n : Nat} (ho : PsOwn base w v ps cells) (hn : ps.length = n) {i : Nat} {h : Hb} (hi : (bodyH cells m n)[i]? = some h) :
    ∃ t body, ps[i]? = some (t, body) ∧ h.n = m + 1 + i ∧ h.len = body.length ∧ cells[i * 2 + 1]? = some (.slice h.A h.len h.cap) ∧ RowIs kByte base w h (body.map (Value.int .u8)) := by
  obtain ⟨hin, rfl⟩ := bodyH_at hi
  obtain ⟨p, hp⟩ : ∃ p, ps[i]? = some p := ⟨_, List.getElem?_eq_getElem (by omega)⟩
  obtain ⟨t, body⟩ := p
  obtain ⟨B, c, h1, h2, h3⟩ := ho.body i t body hp
  rw [h2]
  exact ⟨t, body, hp, rfl, rfl, rfl, h3⟩
theorem body_rows {base : Nat} {w : World} {v : Value} {ps : List Piece} {cells : List Value} {m n : Nat} (ho : PsOwn base w v ps cells) (hn : ps.length = n) : ∀ h ∈ bodyH cells m n, ∃ cs, RowIs kByte base w h cs := fun h hh => by
  obtain ⟨i, hi, rfl⟩ := List.getElem_of_mem hh
  obtain ⟨t, body, _, _, _, _, hr⟩ := body_row ho hn (List.getElem?_eq_getElem hi)
  exact ⟨_, hr⟩
theorem fine_bodies {base : Nat} {w : World} {v : Value} {ps : List Piece} {cells : List Value} {m n : Nat} (ho : PsOwn base w v ps cells) (hn : ps.length = n) (hm : m + n ≤ 29999) (hl : ∀ p ∈ ps, p.2.length ≤ 274877906944) : Fine (bodyH cells m n) := by
  refine ⟨fun i j a b hi hj hne k hk hk2 => ?_, fun i x hi => ?_, fun i x hi => ?_⟩
  · obtain ⟨_, _, _, _, _, h1, r1⟩ := body_row ho hn hi
    obtain ⟨_, _, _, _, _, h2, r2⟩ := body_row ho hn hj
    have own : ∀ {x : Hb}, x.l.ownBlock = some k → (∃ cs, RowIs kByte base w x cs) → x.A = some ⟨k, 0, none⟩ := fun {x} hx ⟨cs, hr⟩ => by
      obtain ⟨A, c, c', e, _, _, h3⟩ := hr
      have e' : Value.slice x.A x.len x.cap = .slice A x.len c := e
      injection e' with e1 _ _
      rcases h3.2 with ⟨h4, _⟩ | ⟨g, cap, cur, h4, _⟩
      · injection h4 with h4 _ _
        have hx' : (Value.slice x.A x.len x.cap).ownBlock = some k := hx
        rw [e1, h4] at hx'
        simp [Value.ownBlock] at hx'
      · injection h4 with h4 _ _
        have hx' : (Value.slice x.A x.len x.cap).ownBlock = some k := hx
        rw [e1, h4] at hx' ⊢
        have : g = k := by simpa [Value.ownBlock] using hx'
        rw [this]
    rw [own hk ⟨_, r1⟩] at h1
    rw [own hk2 ⟨_, r2⟩] at h2
    exact ho.unlike i j k _ _ _ _ hne h1 h2
  · obtain ⟨_, _, _, h1, _⟩ := body_row ho hn hi
    have := (bodyH_at hi).1
    rw [h1]; omega
  · obtain ⟨t, body, h0, _, h1, _⟩ := body_row ho hn hi
    rw [h1]
    exact hl _ (List.mem_of_getElem? h0)
/-- What holds of a kind's lists, when Apart begins. -/
theorem KHolds.of_mem {K : Kd} {base : Nat} {w : World} {H : Nat → List Hb} (hr : ∀ h ∈ H K.i, ∃ cs, RowIs K base w h cs) (hf : Fine (H K.i)) : KHolds K base w H H 0 := KHolds.start (fun i h hi => hr h (List.mem_of_getElem? hi)) hf
end Go.Proofs.YtlcnjdpfijgcdaaGreatDoor
