/- Lists that a Book may hold: all in blocks of their own, few, none too long; The walk over the document's behind: bytes, and others behind them. -/
import Derived.Test.YtjikjdignhdipaaGreatDoorZRPacketsPut30
import Derived.Test.YtjikjdignhdipaaGreatDoorZRPacketsPut5
namespace Go.Proofs.YtjikjdignhdipaaGreatDoor
open Go.RowKit
set_option linter.unusedSimpArgs false
set_option linter.unusedVariables false

theorem fine_nil : Fine [] := ⟨fun i j a b h => by simp at h, fun i h hi => by simp at hi, fun i h hi => by simp at hi⟩
theorem fine_one {h : Hb} (hn : 1 ≤ h.n ∧ h.n ≤ 30000) (hl : h.len ≤ 274877906944) : Fine [h] := by
  have one : ∀ {i : Nat} {x : Hb}, [h][i]? = some x → i = 0 ∧ x = h := fun {i} {x} hi => by
    rcases i with _ | i
    · exact ⟨rfl, by simpa using hi.symm⟩
    · simp at hi
  refine ⟨fun i j a b hi hj hne => ?_, fun i x hi => ?_, fun i x hi => ?_⟩
  · have := (one hi).1; have := (one hj).1; omega
  · rw [(one hi).2]; exact hn
  · rw [(one hi).2]; exact hl
theorem fine_append {l m : List Hb} (h1 : Fine l) (h2 : Fine m) (hd : ∀ a ∈ l, ∀ b ∈ m, ∀ k, a.l.ownBlock = some k → b.l.ownBlock ≠ some k) : Fine (l ++ m) := by
  have at_ : ∀ {i : Nat} {x : Hb}, (l ++ m)[i]? = some x → (i < l.length ∧ l[i]? = some x) ∨ (l.length ≤ i ∧ m[i - l.length]? = some x) := fun {i} {x} hi => by
    rcases Nat.lt_or_ge i l.length with h | h
    · rw [List.getElem?_append_left h] at hi; exact .inl ⟨h, hi⟩
    · rw [List.getElem?_append_right h] at hi; exact .inr ⟨h, hi⟩
  refine ⟨fun i j a b hi hj hne k hk hk2 => ?_, fun i x hi => ?_, fun i x hi => ?_⟩
  · rcases at_ hi with ⟨h3, h4⟩ | ⟨h3, h4⟩ <;> rcases at_ hj with ⟨h5, h6⟩ | ⟨h5, h6⟩
    · exact h1.unlike i j a b h4 h6 hne k hk hk2
    · exact hd a (List.mem_of_getElem? h4) b (List.mem_of_getElem? h6) k hk hk2
    · exact hd b (List.mem_of_getElem? h6) a (List.mem_of_getElem? h4) k hk2 hk
    · exact h2.unlike _ _ a b h4 h6 (by omega) k hk hk2
  · rcases at_ hi with ⟨_, h4⟩ | ⟨_, h4⟩
    · exact h1.n _ x h4
    · exact h2.n _ x h4
  · rcases at_ hi with ⟨_, h4⟩ | ⟨_, h4⟩
    · exact h1.len _ x h4
    · exact h2.len _ x h4
/-- A body in a Book is a row of the call's own. -/
theorem body_row {base : Nat} {w : World} {v : Value} {ps : List Piece} {cells : List Value} {m n : Nat} (ho : PsOwn base w v ps cells) (hn : ps.length = n) {i : Nat} {h : Hb} (hi : (bodyH cells m n)[i]? = some h) :
    ∃ t body, ps[i]? = some (t, body) ∧ h.n = m + 1 + i ∧ h.len = body.length ∧ cells[i * 2 + 1]? = some (.slice h.A h.len h.cap) ∧ RowIs kByte base w h (body.map (Value.int .u8)) := by
  obtain ⟨hin, rfl⟩ := bodyH_at hi
  obtain ⟨p, hp⟩ : ∃ p, ps[i]? = some p := ⟨_, List.getElem?_eq_getElem (by omega)⟩
  obtain ⟨t, body⟩ := p
  obtain ⟨B, c, h1, h2, h3⟩ := ho.body i t body hp
  rw [h2]
  exact ⟨t, body, hp, rfl, rfl, rfl, h3⟩
theorem body_rows {base : Nat} {w : World} {v : Value} {ps : List Piece} {cells : List Value} {m n : Nat} (ho : PsOwn base w v ps cells) (hn : ps.length = n) : ∀ h ∈ bodyH cells m n, ∃ cs, RowIs kByte base w h cs := fun h hh => by
  obtain ⟨i, hi, rfl⟩ := List.getElem_of_mem hh
  obtain ⟨t, body, _, _, _, _, hr⟩ := body_row ho hn (List.getElem?_eq_getElem hi)
  exact ⟨_, hr⟩
theorem fine_bodies {base : Nat} {w : World} {v : Value} {ps : List Piece} {cells : List Value} {m n : Nat} (ho : PsOwn base w v ps cells) (hn : ps.length = n) (hm : m + n ≤ 29999) (hl : ∀ p ∈ ps, p.2.length ≤ 274877906944) : Fine (bodyH cells m n) := by
  refine ⟨fun i j a b hi hj hne k hk hk2 => ?_, fun i x hi => ?_, fun i x hi => ?_⟩
  · obtain ⟨_, _, _, _, _, h1, r1⟩ := body_row ho hn hi
    obtain ⟨_, _, _, _, _, h2, r2⟩ := body_row ho hn hj
    have own : ∀ {x : Hb}, x.l.ownBlock = some k → (∃ cs, RowIs kByte base w x cs) → x.A = some ⟨k, 0, none⟩ := fun {x} hx ⟨cs, hr⟩ => by
      obtain ⟨A, c, c', e, _, _, h3⟩ := hr
      have e' : Value.slice x.A x.len x.cap = .slice A x.len c := e
      injection e' with e1 _ _
      rcases h3.2 with ⟨h4, _⟩ | ⟨g, cap, cur, h4, _⟩
      · injection h4 with h4 _ _
        have hx' : (Value.slice x.A x.len x.cap).ownBlock = some k := hx
        rw [e1, h4] at hx'
        simp [Value.ownBlock] at hx'
      · injection h4 with h4 _ _
        have hx' : (Value.slice x.A x.len x.cap).ownBlock = some k := hx
        rw [e1, h4] at hx' ⊢
        have : g = k := by simpa [Value.ownBlock] using hx'
        rw [this]
    rw [own hk ⟨_, r1⟩] at h1
    rw [own hk2 ⟨_, r2⟩] at h2
    exact ho.unlike i j k _ _ _ _ hne h1 h2
  · obtain ⟨_, _, _, h1, _⟩ := body_row ho hn hi
    have := (bodyH_at hi).1
    rw [h1]; omega
  · obtain ⟨t, body, h0, _, h1, _⟩ := body_row ho hn hi
    rw [h1]
    exact hl _ (List.mem_of_getElem? h0)
/-- What holds of a kind's lists, when Apart begins. -/
theorem KHolds.of_mem {K : Kd} {base : Nat} {w : World} {H : Nat → List Hb} (hr : ∀ h ∈ H K.i, ∃ cs, RowIs K base w h cs) (hf : Fine (H K.i)) : KHolds K base w H H 0 := KHolds.start (fun i h hi => hr h (List.mem_of_getElem? hi)) hf
end Go.Proofs.YtjikjdignhdipaaGreatDoor

namespace Go.Proofs.YtjikjdignhdipaaGreatDoor
open Go.RowKit
set_option linter.unusedSimpArgs false
set_option linter.unusedVariables false

/-- New bytes in memory of the call's own. -/
def NewB (w : World) (bytes : List Int) (e : Ending) (w' : World) : Prop :=
  ∃ A c m, bytes.length = m ∧ e = .returned (.slice A m c) ∧ Rd w' .u8 A m bytes ∧ (A = none → c = 0) ∧ m ≤ c ∧ Below w.heap.size w w'
theorem rd_own_any {w : World} {base n : Nat} {v : Value} {xs : List Int} (h : w.ownsRow base 5 1 v n (xs.map (Value.int .u8))) (hb : ∀ x ∈ xs, 0 ≤ x ∧ x ≤ 255) (hn : n ≤ 140737488351232) : ∃ A c, v = .slice A n c ∧ Rd w .u8 A n xs ∧ (A = none → c = 0) ∧ n ≤ c := by
  rcases h.2 with ⟨rfl, rfl⟩ | ⟨g, cap, cur, rfl, _, _, hc, _⟩
  · have hx : xs = [] := List.eq_nil_of_length_eq_zero (by have := h.1; simpa using this)
    subst hx
    exact ⟨none, 0, rfl, rd_nil w .u8, fun _ => rfl, Nat.le_refl _⟩
  · exact ⟨_, cap, rfl, rd_own h hb hn, (fun e => by cases e), hc⟩

/-- The same, told closer. -/
def NewO (w : World) (bytes : List Int) (e : Ending) (w' : World) : Prop :=
  ∃ A c m, bytes.length = m ∧ e = .returned (.slice A m c) ∧ w'.ownsRow w.heap.size 5 1 (.slice A m c) m (bytes.map (Value.int .u8)) ∧ Below w.heap.size w w'
theorem NewO.newB {w w' : World} {bytes : List Int} {e : Ending} (h : NewO w bytes e w') (hb : ∀ x ∈ bytes, 0 ≤ x ∧ x ≤ 255) (hn : bytes.length ≤ 140737488351232) : NewB w bytes e w' := by
  obtain ⟨A, c, m, hm, rfl, ho, hB⟩ := h
  obtain ⟨A', c', e, hr, hz, hc⟩ := rd_own_any ho hb (by omega)
  injection e with e1 _ e2
  subst e1; subst e2
  exact ⟨_, _, m, hm, rfl, hr, hz, hc, hB⟩
theorem NewO.before {w w1 w' : World} {bytes : List Int} {e : Ending} (h : NewO w1 bytes e w') (hb : Below w.heap.size w w1) : NewO w bytes e w' := by
  obtain ⟨A, c, m, hm, he, ho, hB⟩ := h
  exact ⟨A, c, m, hm, he, own_lower ho hb.size, hb.trans (hB.mono hb.size)⟩

set_option maxRecDepth 100000 in
set_option maxHeartbeats 1000000 in
theorem behind_own (A0 : Option Addr) (n0 c0 : Nat) (x0 : List Int) (A1 : Option Addr) (n1 c1 : Nat) (x1 : List Int) (w : World) (r0 : Rd w .u8 A0 n0 x0) (z0 : A0 = none → c0 = 0) (r1 : Rd w .u8 A1 n1 x1) (z1 : A1 = none → c1 = 0) (hn : n0 + n1 ≤ 70368744177664) :
    Calls Tryz.prog 97 #[.slice A0 n0 c0, .slice A1 n1 c1] w (NewO w (x0 ++ x1)) := by
  have h0 := r0.len
  have h1 := r1.len
  have hb0 := rd_bytes r0
  have hb1 := rd_bytes r1
  have R0 := Lib.hid r0
  have R1 := Lib.hid r1
  clear r0 r1
  go_enter Tryz.func97, Tryz.ntmps97
  go_wp2_with (first
    | (at_builtin; refine append_bytes w.heap.size rfl _ _ rfl v1 (0 + n0) ([] ++ x0) rfl A1 n1 c1 x1 rfl HR1.out z1 HO1.out HB1.out.size (by omega) ?_
       intro v2 w2 ho2 hg2 hat2
       have HG2 := Lib.hid hg2
       clear hg2 hat2)
    | (at_builtin; refine append_bytes w.heap.size rfl _ _ rfl (.slice none 0 0) 0 [] rfl A0 n0 c0 x0 rfl R0.out z0 (own_nil _ _ _ _) (Nat.le_refl _) (by omega) ?_
       intro v1 w1 HO1 hg1 hat1
       have HB1 := Lib.hid (grown_nil hg1)
       have HR1 := Lib.hid (R1.out.below HB1.out)
       clear hg1 hat1))
  have hB2 : Below w.heap.size w w2 := grown_below HB1.out HG2.out HO1.out (Nat.le_refl _)
  obtain ⟨A, c, rfl, hc, _⟩ := own_slice ho2.out
  have ho3 := ho2.out
  rw [List.nil_append] at ho3
  have hlen : (x0 ++ x1).length = 0 + n0 + n1 := by simp [h0, h1]
  go_ret
  exact ⟨A, c, _, hlen, rfl, ho3, hB2⟩
theorem behind_any (A0 : Option Addr) (n0 c0 : Nat) (x0 : List Int) (A1 : Option Addr) (n1 c1 : Nat) (x1 : List Int) (w : World) (r0 : Rd w .u8 A0 n0 x0) (z0 : A0 = none → c0 = 0) (r1 : Rd w .u8 A1 n1 x1) (z1 : A1 = none → c1 = 0) (hn : n0 + n1 ≤ 70368744177664) :
    Calls Tryz.prog 97 #[.slice A0 n0 c0, .slice A1 n1 c1] w (NewB w (x0 ++ x1)) :=
  (behind_own A0 n0 c0 x0 A1 n1 c1 x1 w r0 z0 r1 z1 hn).mono fun e w' h => h.newB (fun x hx => by
    rcases List.mem_append.1 hx with h | h
    · exact rd_bytes r0 x h
    · exact rd_bytes r1 x h) (by have := r0.len; have := r1.len; simp; omega)
end Go.Proofs.YtjikjdignhdipaaGreatDoor
