/- Lists that a Book may hold: all in blocks of their own, few, none too long. -/
import Derived.Test.YtjikjdignhdipaaGreatDoorYRPacketsGet34
namespace Go.Proofs.YtjikjdignhdipaaGreatDoor
open Go.RowKit
set_option linter.unusedSimpArgs false
set_option linter.unusedVariables false

theorem fine_nil : Fine [] := ⟨fun i j a b h => by simp at h, fun i h hi => by simp at hi, fun i h hi => by simp at hi⟩
theorem fine_one {h : Hb} (hn : 1 ≤ h.n ∧ h.n ≤ 30000) (hl : h.len ≤ 274877906944) : Fine [h] := by
  have one : ∀ {i : Nat} {x : Hb}, [h][i]? = some x → i = 0 ∧ x = h := fun {i} {x} hi => by
    rcases i with _ | i
    · exact ⟨rfl, by simpa using hi.symm⟩
    · simp at hi
  refine ⟨fun i j a b hi hj hne => ?_, fun i x hi => ?_, fun i x hi => ?_⟩
  · have := (one hi).1; have := (one hj).1; omega
  · rw [(one hi).2]; exact hn
  · rw [(one hi).2]; exact hl
theorem fine_append {l m : List Hb} (h1 : Fine l) (h2 : Fine m) (hd : ∀ a ∈ l, ∀ b ∈ m, ∀ k, a.l.ownBlock = some k → b.l.ownBlock ≠ some k) : Fine (l ++ m) := by
  have at_ : ∀ {i : Nat} {x : Hb}, (l ++ m)[i]? = some x → (i < l.length ∧ l[i]? = some x) ∨ (l.length ≤ i ∧ m[i - l.length]? = some x) := fun {i} {x} hi => by
    rcases Nat.lt_or_ge i l.length with h | h
    · rw [List.getElem?_append_left h] at hi; exact .inl ⟨h, hi⟩
    · rw [List.getElem?_append_right h] at hi; exact .inr ⟨h, hi⟩
  refine ⟨fun i j a b hi hj hne k hk hk2 => ?_, fun i x hi => ?_, fun i x hi => ?_⟩
  · rcases at_ hi with ⟨h3, h4⟩ | ⟨h3, h4⟩ <;> rcases at_ hj with ⟨h5, h6⟩ | ⟨h5, h6⟩
    · exact h1.unlike i j a b h4 h6 hne k hk hk2
    · exact hd a (List.mem_of_getElem? h4) b (List.mem_of_getElem? h6) k hk hk2
    · exact hd b (List.mem_of_getElem? h6) a (List.mem_of_getElem? h4) k hk2 hk
    · exact h2.unlike _ _ a b h4 h6 (by omega) k hk hk2
  · rcases at_ hi with ⟨_, h4⟩ | ⟨_, h4⟩
    · exact h1.n _ x h4
    · exact h2.n _ x h4
  · rcases at_ hi with ⟨_, h4⟩ | ⟨_, h4⟩
    · exact h1.len _ x h4
    · exact h2.len _ x h4
/-- A body in a Book is a row of the call's own. -/
theorem body_row {base : Nat} {w : World} {v : Value} {ps : List Piece} {cells : List Value} {m n : Nat} (ho : PsOwn base w v ps cells) (hn : ps.length = n) {i : Nat} {h : Hb} (hi : (bodyH cells m n)[i]? = some h) :
    ∃ t body, ps[i]? = some (t, body) ∧ h.n = m + 1 + i ∧ h.len = body.length ∧ cells[i * 2 + 1]? = some (.slice h.A h.len h.cap) ∧ RowIs kByte base w h (body.map (Value.int .u8)) := by
  obtain ⟨hin, rfl⟩ := bodyH_at hi
  obtain ⟨p, hp⟩ : ∃ p, ps[i]? = some p := ⟨_, List.getElem?_eq_getElem (by omega)⟩
  obtain ⟨t, body⟩ := p
  obtain ⟨B, c, h1, h2, h3⟩ := ho.body i t body hp
  rw [h2]
  exact ⟨t, body, hp, rfl, rfl, rfl, h3⟩
theorem body_rows {base : Nat} {w : World} {v : Value} {ps : List Piece} {cells : List Value} {m n : Nat} (ho : PsOwn base w v ps cells) (hn : ps.length = n) : ∀ h ∈ bodyH cells m n, ∃ cs, RowIs kByte base w h cs := fun h hh => by
  obtain ⟨i, hi, rfl⟩ := List.getElem_of_mem hh
  obtain ⟨t, body, _, _, _, _, hr⟩ := body_row ho hn (List.getElem?_eq_getElem hi)
  exact ⟨_, hr⟩
theorem fine_bodies {base : Nat} {w : World} {v : Value} {ps : List Piece} {cells : List Value} {m n : Nat} (ho : PsOwn base w v ps cells) (hn : ps.length = n) (hm : m + n ≤ 29999) (hl : ∀ p ∈ ps, p.2.length ≤ 274877906944) : Fine (bodyH cells m n) := by
  refine ⟨fun i j a b hi hj hne k hk hk2 => ?_, fun i x hi => ?_, fun i x hi => ?_⟩
  · obtain ⟨_, _, _, _, _, h1, r1⟩ := body_row ho hn hi
    obtain ⟨_, _, _, _, _, h2, r2⟩ := body_row ho hn hj
    have own : ∀ {x : Hb}, x.l.ownBlock = some k → (∃ cs, RowIs kByte base w x cs) → x.A = some ⟨k, 0, none⟩ := fun {x} hx ⟨cs, hr⟩ => by
      obtain ⟨A, c, c', e, _, _, h3⟩ := hr
      have e' : Value.slice x.A x.len x.cap = .slice A x.len c := e
      injection e' with e1 _ _
      rcases h3.2 with ⟨h4, _⟩ | ⟨g, cap, cur, h4, _⟩
      · injection h4 with h4 _ _
        have hx' : (Value.slice x.A x.len x.cap).ownBlock = some k := hx
        rw [e1, h4] at hx'
        simp [Value.ownBlock] at hx'
      · injection h4 with h4 _ _
        have hx' : (Value.slice x.A x.len x.cap).ownBlock = some k := hx
        rw [e1, h4] at hx' ⊢
        have : g = k := by simpa [Value.ownBlock] using hx'
        rw [this]
    rw [own hk ⟨_, r1⟩] at h1
    rw [own hk2 ⟨_, r2⟩] at h2
    exact ho.unlike i j k _ _ _ _ hne h1 h2
  · obtain ⟨_, _, _, h1, _⟩ := body_row ho hn hi
    have := (bodyH_at hi).1
    rw [h1]; omega
  · obtain ⟨t, body, h0, _, h1, _⟩ := body_row ho hn hi
    rw [h1]
    exact hl _ (List.mem_of_getElem? h0)
/-- What holds of a kind's lists, when Apart begins. -/
theorem KHolds.of_mem {K : Kd} {base : Nat} {w : World} {H : Nat → List Hb} (hr : ∀ h ∈ H K.i, ∃ cs, RowIs K base w h cs) (hf : Fine (H K.i)) : KHolds K base w H H 0 := KHolds.start (fun i h hi => hr h (List.mem_of_getElem? hi)) hf
end Go.Proofs.YtjikjdignhdipaaGreatDoor
