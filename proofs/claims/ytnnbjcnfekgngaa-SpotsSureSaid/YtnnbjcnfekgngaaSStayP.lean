/- The law SpotsStay: plain laws. -/
import Derived.Test.YtnnbjcnfekgngaaSOps4
namespace Go.Proofs.Ytnnbjcnfekgngaa
set_option linter.unusedSimpArgs false
set_option linter.unusedVariables false

theorem atL_of {xs : List Int} {k : Nat} {a : Int} (h : xs[k]? = some a) : atL xs k = a := by simp [atL, h]
theorem find_change {l : List Spt} {xs : List Int} {n k : Nat} {a : Int} (hl : xs.length = n) (hok : SpOk n (atL xs)) (ha : xs[k]? = some a) : (changeL l xs).find? (isAt a) = some (nowS l a) := by
  have hk : k < n := by rw [← hl]; exact (List.getElem?_eq_some_iff.1 ha).1
  refine find_first (i := k) (by simp [changeL, ha]) (by simp [isAt, nowS_at]) ?_
  intro j s' hj hs
  have hjn : j < xs.length := by omega
  have hx : xs[j]? = some xs[j] := List.getElem?_eq_getElem hjn
  have : s' = nowS l xs[j] := by
    have h2 : (changeL l xs)[j]? = some (nowS l xs[j]) := by simp [changeL, hx]
    rw [h2] at hs
    injection hs with hs
    exact hs.symm
  subst this
  have hne := hok.2.2.2 j k hj hk
  rw [atL_of hx, atL_of ha] at hne
  simp [isAt, nowS_at, hne]
theorem state_change {l : List Spt} {xs : List Int} {n k : Nat} {a : Int} (hl : xs.length = n) (hok : SpOk n (atL xs)) (ha : xs[k]? = some a) : stateOf (changeL l xs) a = (nowS l a).st := by
  unfold stateOf; rw [find_change hl hok ha]
theorem now_change {l : List Spt} {xs : List Int} {n k : Nat} {a : Int} (hl : xs.length = n) (hok : SpOk n (atL xs)) (ha : xs[k]? = some a) : nowS (changeL l xs) a = nowS l a := by
  have h : nowS (changeL l xs) a = ((changeL l xs).find? (isAt a)).getD ⟨a, 1, none⟩ := rfl
  rw [h, find_change hl hok ha]; rfl
theorem change_fix {l : List Spt} {xs : List Int} {n : Nat} (hl : xs.length = n) (hok : SpOk n (atL xs)) : changeL (changeL l xs) xs = changeL l xs := by
  refine List.map_congr_left fun a ha => ?_
  obtain ⟨k, hk, rfl⟩ := List.getElem_of_mem ha
  exact now_change hl hok (List.getElem?_eq_getElem hk)
theorem others_fix {l : List Spt} {xs : List Int} {n : Nat} (hl : xs.length = n) (hok : SpOk n (atL xs)) : othersL (changeL l xs) xs = [] := by
  refine List.filter_eq_nil_iff.2 fun a ha => ?_
  obtain ⟨k, hk, rfl⟩ := List.getElem_of_mem ha
  rw [find_change hl hok (List.getElem?_eq_getElem hk)]
  simp
theorem change_ats (l : List Spt) (xs : List Int) : (changeL l xs).map (·.at_) = xs := by
  simp only [changeL, List.map_map]
  have : ((fun x : Spt => x.at_) ∘ nowS l) = id := by funext a; exact nowS_at l a
  rw [this, List.map_id]
/-- The best one of the first k. -/
def bestK (l : List Spt) (x0 : Int) (k : Nat) : Int × Bool := match (l.take k).find? isSure with
  | some s => (s.at_, true)
  | none => (x0, false)
theorem bestK_zero (l : List Spt) (x0 : Int) : bestK l x0 0 = (x0, false) := rfl
theorem bestK_next {l : List Spt} {x0 : Int} {k : Nat} {s : Spt} (hs : l[k]? = some s) : bestK l x0 (k + 1) = if (bestK l x0 k).2 = true then bestK l x0 k else if isSure s = true then (s.at_, true) else bestK l x0 k := by
  have h := (List.getElem?_eq_some_iff.1 hs).1
  unfold bestK
  rw [List.take_succ_eq_append_getElem h, (List.getElem?_eq_some_iff.1 hs).2, List.find?_append]
  cases h1 : (l.take k).find? isSure with
  | some x => simp
  | none =>
    by_cases h2 : isSure s = true
    · simp [h2]
    · simp [h2]
theorem bestK_all {l : List Spt} {x0 : Int} {n : Nat} (hl : l.length = n) (h0 : (l[0]?.map (·.at_)).getD 0 = x0) : bestOf l = bestK l x0 n := by
  unfold bestOf bestK
  rw [List.take_of_length_le (by omega), h0]
  cases l.find? isSure <;> rfl
theorem others_at {l : List Spt} {xs : List Int} {k : Nat} {a : Int} (ha : xs[k]? = some a) (hno : (l.find? (isAt a)).isNone = true) : (othersL l xs)[(othersL l (xs.take k)).length]? = some a := by
  have h := (List.getElem?_eq_some_iff.1 ha).1
  have e : xs = xs.take k ++ a :: xs.drop (k + 1) := by
    conv => lhs; rw [← List.take_append_drop k xs]
    rw [List.drop_eq_getElem_cons h, (List.getElem?_eq_some_iff.1 ha).2]
  have e2 : othersL l xs = othersL l (xs.take k) ++ a :: othersL l (xs.drop (k + 1)) := by
    have : othersL l xs = othersL l (xs.take k ++ a :: xs.drop (k + 1)) := by rw [← e]
    rw [this]
    unfold othersL
    simp only [List.filter_append, List.filter_cons, hno, if_true]
  rw [e2, List.getElem?_append_right (Nat.le_refl _), Nat.sub_self]
  rfl
end Go.Proofs.Ytnnbjcnfekgngaa
