/- The law SpotsSure: plain laws. -/
import Derived.Test.YtnnbjcnfekgngaaSStayP
import Derived.Test.YtnnbjcnfekgngaaSActs
namespace Go.Proofs.Ytnnbjcnfekgngaa
set_option linter.unusedSimpArgs false
set_option linter.unusedVariables false

/-- What stays of a list: those with a key of another one, in its order. -/
def pickX {α : Type} (key : α → Int) (S : List α) (xs : List Int) : List α := xs.flatMap fun a => S.filter fun x => key x == a
theorem pickX_nil {α : Type} (key : α → Int) (xs : List Int) : pickX key [] xs = [] := by
  induction xs with
  | nil => rfl
  | cons a xs ih => simp [pickX]
theorem pickX_len {α : Type} (key : α → Int) (xs : List Int) (hnd : xs.Nodup) (S : List α) : (pickX key S xs).length ≤ S.length := by
  induction S with
  | nil => simp [pickX_nil]
  | cons x S ih =>
    have h : (pickX key (x :: S) xs).length = (pickX key S xs).length + xs.countP (fun a => key x == a) := by
      clear ih hnd
      induction xs with
      | nil => rfl
      | cons a xs ihx =>
        simp only [pickX, List.flatMap_cons, List.length_append, List.countP_cons] at ihx ⊢
        rw [ihx, List.filter_cons]
        split <;> simp <;> omega
    have h1 : xs.countP (fun a => key x == a) ≤ 1 := by
      clear h ih
      induction xs with
      | nil => simp
      | cons a xs ihx =>
        rw [List.nodup_cons] at hnd
        rw [List.countP_cons]
        by_cases hk : key x = a
        · have h0 : xs.countP (fun b => key x == b) = 0 := by
            rw [List.countP_eq_zero]
            intro b hb
            have : key x ≠ b := fun e => hnd.1 (by rw [← hk, e]; exact hb)
            simpa using this
          rw [h0]; simp [hk]
        · have := ihx hnd.2
          simp [hk]; exact this
    rw [h, List.length_cons]
    omega
theorem pickX_mem {α : Type} {key : α → Int} {S : List α} {xs : List Int} {x : α} : x ∈ pickX key S xs ↔ x ∈ S ∧ key x ∈ xs := by
  simp only [pickX, List.mem_flatMap, List.mem_filter, beq_iff_eq]
  constructor
  · rintro ⟨a, ha, hx, rfl⟩
    exact ⟨hx, ha⟩
  · rintro ⟨hx, hk⟩
    exact ⟨key x, hk, hx, rfl⟩
theorem pickX_filter {α : Type} (key : α → Int) (S : List α) (a : Int) : ∀ (xs : List Int), xs.Nodup → (pickX key S xs).filter (fun x => key x == a) = if a ∈ xs then S.filter (fun x => key x == a) else []
  | [], _ => by simp [pickX]
  | b :: xs, h => by
    rw [List.nodup_cons] at h
    have ih := pickX_filter key S a xs h.2
    have e : pickX key S (b :: xs) = S.filter (fun x => key x == b) ++ pickX key S xs := by simp [pickX]
    rw [e, List.filter_append, ih, List.filter_filter]
    by_cases hab : a = b
    · subst hab
      rw [if_neg h.1, if_pos (by simp), List.append_nil]
      congr 1
      funext x
      simp
    · have h0 : S.filter (fun x => key x == a && key x == b) = [] := by
        rw [List.filter_eq_nil_iff]
        intro x _ hx
        simp only [Bool.and_eq_true, beq_iff_eq] at hx
        exact hab (hx.1.symm.trans hx.2)
      rw [h0, List.nil_append]
      simp [hab]
theorem pickX_next {α : Type} (key : α → Int) (S : List α) {xs : List Int} {k : Nat} {a : Int} (ha : xs[k]? = some a) : pickX key S (xs.take (k + 1)) = pickX key S (xs.take k) ++ S.filter (fun x => key x == a) := by
  have h := (List.getElem?_eq_some_iff.1 ha).1
  rw [List.take_succ_eq_append_getElem h, (List.getElem?_eq_some_iff.1 ha).2]
  simp [pickX, List.flatMap_append]
theorem filter_next {α : Type} (q : α → Bool) {S : List α} {k : Nat} {x : α} (hx : S[k]? = some x) : (S.take (k + 1)).filter q = (S.take k).filter q ++ if q x = true then [x] else [] := by
  have h := (List.getElem?_eq_some_iff.1 hx).1
  rw [List.take_succ_eq_append_getElem h, (List.getElem?_eq_some_iff.1 hx).2, List.filter_append]
  congr 1
  by_cases hq : q x = true <;> simp [hq]
/-- The sum that a spot was asked with last. -/
def lastK (K : List Sa) (a : Int) : Option (List Int) := ((K.filter fun x => x.spot == a).getLast?).map (·.sum)
theorem lastK_snoc (K : List Sa) (x : Sa) (a : Int) : lastK (K ++ [x]) a = if (x.spot == a) = true then some x.sum else lastK K a := by
  unfold lastK
  rw [List.filter_append]
  by_cases h : (x.spot == a) = true
  · rw [if_pos h, show ([x].filter fun y => y.spot == a) = [x] by simp only [List.filter, h]]; simp
  · have h' : (x.spot == a) = false := by simpa using h
    rw [if_neg h, show ([x].filter fun y => y.spot == a) = [] by simp only [List.filter, h']]; simp
theorem lastK_next {K : List Sa} {k : Nat} {x : Sa} {a : Int} (hx : K[k]? = some x) : lastK (K.take (k + 1)) a = if (x.spot == a) = true then some x.sum else lastK (K.take k) a := by
  have h := (List.getElem?_eq_some_iff.1 hx).1
  rw [List.take_succ_eq_append_getElem h, (List.getElem?_eq_some_iff.1 hx).2, lastK_snoc]
theorem lastK_pick {K : List Sa} {xs : List Int} {a : Int} (hnd : xs.Nodup) (ha : a ∈ xs) : lastK (pickX (·.spot) K xs) a = lastK K a := by
  unfold lastK
  rw [pickX_filter (·.spot) K a xs hnd, if_pos ha]
structure SureInv (L : List Spt) (S : List Int) (K : List Sa) : Prop where
  nd : (L.map (·.at_)).Nodup
  su : ∀ s ∈ L, (s.st = 2 ↔ s.at_ ∈ S)
  sub : ∀ a ∈ S, a ∈ L.map (·.at_)
  las : ∀ s ∈ L, s.st = 1 → ∀ q, s.sum = some q → lastK K s.at_ = some q.2
theorem sure_start (f : Int) : SureInv [⟨f, 2, none⟩] [f] [] :=
  ⟨by simp, by simp, by simp, fun s hs h1 q hq => by simp at hs; subst hs; cases hq⟩
theorem nodup_of {xs : List Int} {n : Nat} (hl : xs.length = n) (hok : SpOk n (atL xs)) : xs.Nodup := by
  unfold List.Nodup
  rw [List.pairwise_iff_getElem]
  intro i j hi hj hij
  have h := hok.2.2.2 i j hij (by omega)
  rwa [atL_of (List.getElem?_eq_getElem hi), atL_of (List.getElem?_eq_getElem hj)] at h
theorem ats_ne {L : List Spt} (hnd : (L.map (·.at_)).Nodup) {i j : Nat} {s t : Spt} (hi : L[i]? = some s) (hj : L[j]? = some t) (hij : i ≠ j) : s.at_ ≠ t.at_ := by
  unfold List.Nodup at hnd
  rw [List.pairwise_iff_getElem] at hnd
  have hil := (List.getElem?_eq_some_iff.1 hi).1
  have hjl := (List.getElem?_eq_some_iff.1 hj).1
  rcases Nat.lt_or_ge i j with h | h
  · have := hnd i j (by simpa using hil) (by simpa using hjl) h
    simpa [(List.getElem?_eq_some_iff.1 hi).2, (List.getElem?_eq_some_iff.1 hj).2] using this
  · have := hnd j i (by simpa using hjl) (by simpa using hil) (by omega)
    rw [List.getElem_map, List.getElem_map, (List.getElem?_eq_some_iff.1 hi).2, (List.getElem?_eq_some_iff.1 hj).2] at this
    exact fun e => this e.symm
theorem set_mem {L : List Spt} {i : Nat} {s s1 x : Spt} (hnd : (L.map (·.at_)).Nodup) (hi : L[i]? = some s) (h1 : s1.at_ = s.at_) (hx : x ∈ L.set i s1) : x = s1 ∨ (x ∈ L ∧ x.at_ ≠ s.at_) := by
  obtain ⟨j, hj, rfl⟩ := List.getElem_of_mem hx
  have hjl : j < L.length := by simpa using hj
  by_cases hij : i = j
  · subst hij
    left; simp
  · right
    rw [List.getElem_set_ne hij]
    exact ⟨List.getElem_mem hjl, fun e => ats_ne hnd hi (List.getElem?_eq_getElem hjl) hij e.symm⟩
theorem set_ats {L : List Spt} {i : Nat} {s s1 : Spt} (hi : L[i]? = some s) (h1 : s1.at_ = s.at_) : (L.set i s1).map (·.at_) = L.map (·.at_) := by
  rw [List.map_set, h1]
  apply List.ext_getElem?
  intro j
  by_cases hij : i = j
  · subst hij
    have hil := (List.getElem?_eq_some_iff.1 hi).1
    rw [List.getElem?_set_self (by simpa using hil), List.getElem?_map, hi]; rfl
  · rw [List.getElem?_set_ne hij]
/-- A spot was asked. -/
theorem sure_ask {L : List Spt} {S : List Int} {K : List Sa} {x : Sa} {X : Nat} (h : SureInv L S K) (he : askE L x.spot = 0) : SureInv (askL L x.spot X x.sum) S (K ++ [x]) := by
  unfold askL
  rw [if_pos he]
  cases hf : L.find? (isAt x.spot) with
  | none => simp [askE, hf] at he
  | some s =>
    have h2 : s.st ≠ 2 := fun e => by simp [askE, hf, e] at he
    obtain ⟨hq, i, hil, hs, hpre⟩ := List.find?_eq_some_iff_getElem.1 hf
    have hi : L[i]? = some s := by rw [List.getElem?_eq_getElem hil, hs]
    have hpre' : ∀ j s', j < i → L[j]? = some s' → isAt x.spot s' = false := fun j s' hj hjs => by
      have := hpre j hj
      have hjl := (List.getElem?_eq_some_iff.1 hjs).1
      rw [(List.getElem?_eq_some_iff.1 hjs).2] at this
      simpa using this
    rw [← updF_set hi hq hpre']
    have hsa : s.at_ = x.spot := by simpa [isAt] using hq
    refine ⟨?_, fun t ht => ?_, ?_, fun t ht h1 q hqq => ?_⟩
    · rw [set_ats (s1 := ⟨s.at_, s.st, some (X, x.sum)⟩) hi rfl]; exact h.nd
    · rcases set_mem (s1 := ⟨s.at_, s.st, some (X, x.sum)⟩) h.nd hi rfl ht with rfl | ⟨htL, _⟩
      · exact h.su s (List.mem_of_getElem? hi)
      · exact h.su t htL
    · rw [set_ats (s1 := ⟨s.at_, s.st, some (X, x.sum)⟩) hi rfl]; exact h.sub
    · rw [lastK_snoc]
      rcases set_mem (s1 := ⟨s.at_, s.st, some (X, x.sum)⟩) h.nd hi rfl ht with rfl | ⟨htL, hne⟩
      · injection hqq with hqq
        subst hqq
        rw [if_pos (by simp only; rw [hsa]; exact beq_self_eq_true _)]
      · rw [if_neg (by rw [beq_iff_eq, ← hsa]; exact fun e => hne e.symm)]
        exact h.las t htL h1 q hqq
/-- A spot told its sum back. -/
theorem sure_back {L : List Spt} {S : List Int} {K : List Sa} {bs : List Int} {a : Int} (h : SureInv L S K) (he : backE L bs = (a, 0)) : SureInv (backL L bs) (S ++ [a]) K ∧ lastK K a = some bs := by
  unfold backL
  cases hf : L.find? (isSum bs) with
  | none => simp [backE, hf] at he
  | some s =>
    have hsa : s.at_ = a := by simpa [backE, hf] using he
    obtain ⟨hq, i, hil, hs, hpre⟩ := List.find?_eq_some_iff_getElem.1 hf
    have hi : L[i]? = some s := by rw [List.getElem?_eq_getElem hil, hs]
    have hpre' : ∀ j s', j < i → L[j]? = some s' → isSum bs s' = false := fun j s' hj hjs => by
      have := hpre j hj
      rw [(List.getElem?_eq_some_iff.1 hjs).2] at this
      simpa using this
    rw [← updF_set hi hq hpre']
    have hsm := List.mem_of_getElem? hi
    have hq1 : s.st = 1 ∧ ∃ q, s.sum = some q ∧ q.2 = bs := by
      unfold isSum at hq
      cases hsum : s.sum with
      | none => simp [hsum] at hq
      | some q => simp [hsum] at hq; exact ⟨hq.1, q, rfl, hq.2⟩
    refine ⟨⟨?_, fun t ht => ?_, ?_, fun t ht h1 q hqq => ?_⟩, ?_⟩
    · rw [set_ats (s1 := ⟨s.at_, 2, s.sum⟩) hi rfl]; exact h.nd
    · rcases set_mem (s1 := ⟨s.at_, 2, s.sum⟩) h.nd hi rfl ht with rfl | ⟨htL, hne⟩
      · simp [hsa]
      · rw [h.su t htL, List.mem_append, List.mem_singleton, ← hsa]
        constructor
        · exact .inl
        · rintro (h' | h')
          · exact h'
          · exact absurd h' hne
    · rw [set_ats (s1 := ⟨s.at_, 2, s.sum⟩) hi rfl]
      intro b hb
      rcases List.mem_append.1 hb with hb | hb
      · exact h.sub b hb
      · rw [List.mem_singleton] at hb
        rw [hb, ← hsa]
        exact List.mem_map_of_mem hsm
    · rcases set_mem (s1 := ⟨s.at_, 2, s.sum⟩) h.nd hi rfl ht with rfl | ⟨htL, _⟩
      · simp at h1
      · exact h.las t htL h1 q hqq
    · obtain ⟨h1, q, h2, h3⟩ := hq1
      rw [← hsa, h.las s hsm h1 q h2, h3]
/-- Other spots came. -/
theorem sure_change {L : List Spt} {S : List Int} {K : List Sa} {xs : List Int} {n : Nat} (h : SureInv L S K) (hl : xs.length = n) (hok : SpOk n (atL xs)) : SureInv (changeL L xs) (pickX id S xs) (pickX (·.spot) K xs) := by
  have hnd := nodup_of hl hok
  have each : ∀ s ∈ changeL L xs, ∃ a ∈ xs, s = nowS L a := fun s hs => by
    obtain ⟨a, ha, rfl⟩ := List.mem_map.1 hs
    exact ⟨a, ha, rfl⟩
  refine ⟨by rw [change_ats]; exact hnd, fun s hs => ?_, fun a ha => ?_, fun s hs h1 q hq => ?_⟩
  · obtain ⟨a, ha, rfl⟩ := each s hs
    rw [nowS_at, pickX_mem]
    simp only [id]
    cases hf : L.find? (isAt a) with
    | none =>
      have : nowS L a = ⟨a, 1, none⟩ := by unfold nowS; rw [hf]; rfl
      rw [this]
      simp only
      constructor
      · intro e; omega
      · rintro ⟨hS, _⟩
        obtain ⟨s, hs, he⟩ := List.mem_map.1 (h.sub a hS)
        have := List.find?_eq_none.1 hf s hs
        simp [isAt, he] at this
    | some s =>
      have hn : nowS L a = s := by unfold nowS; rw [hf]; rfl
      have hsa : s.at_ = a := by have := List.find?_some hf; simpa [isAt] using this
      rw [hn, h.su s (List.mem_of_find?_eq_some hf), hsa]
      exact ⟨fun h => ⟨h, ha⟩, fun h => h.1⟩
  · rw [change_ats]
    exact (pickX_mem.1 ha).2
  · obtain ⟨a, ha, rfl⟩ := each s hs
    cases hf : L.find? (isAt a) with
    | none =>
      have : nowS L a = ⟨a, 1, none⟩ := by unfold nowS; rw [hf]; rfl
      rw [this] at hq
      cases hq
    | some s =>
      have hn : nowS L a = s := by unfold nowS; rw [hf]; rfl
      rw [hn] at h1 hq ⊢
      have hsa : s.at_ = a := by have := List.find?_some hf; simpa [isAt] using this
      rw [hsa, lastK_pick hnd ha, ← hsa]
      exact h.las s (List.mem_of_find?_eq_some hf) h1 q hq
/-- What State tells of a set's own spot. -/
theorem sure_state {L : List Spt} {S : List Int} {K : List Sa} {k : Nat} {s : Spt} (h : SureInv L S K) (hs : L[k]? = some s) : stateOf L s.at_ = s.st := by
  unfold stateOf
  have hk := (List.getElem?_eq_some_iff.1 hs).1
  rw [find_first (q := isAt s.at_) hs (by simp [isAt]) (fun j s' hj hjs => by
    have h2 : s'.at_ ≠ s.at_ := ats_ne h.nd hjs hs (by omega)
    simp [isAt, h2])]
end Go.Proofs.Ytnnbjcnfekgngaa
