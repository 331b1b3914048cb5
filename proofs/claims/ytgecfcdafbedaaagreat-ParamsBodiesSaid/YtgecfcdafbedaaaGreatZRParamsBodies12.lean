/- slices.Values of spots, called; What nums.Get answers: plain. -/
import Derived.Test.YtgecfcdafbedaaaGreatZRParamsBodies11
import Derived.Test.YtgecfcdafbedaaaGreatZRParamsBodies2
namespace Go.Proofs.YtgecfcdafbedaaaGreat
open Go.RowKit
set_option linter.unusedSimpArgs false
set_option linter.unusedVariables false

theorem val_any (A : Option Addr) (len cap : Nat) (w : World) : Calls Tryz.prog 61 #[.slice A len cap] w fun e w' => e = .returned (.func (.func 79) #[] #[.pointer (some ⟨w.heap.size, 0, none⟩)]) ∧ w' = w.alloc (.cells #[.slice A len cap] 24) :=
  (callsIn_wide (n := 3)).1 (val_in Fence.wide 3 trivial rfl A len cap w)

end Go.Proofs.YtgecfcdafbedaaaGreat

namespace Go.Proofs.YtgecfcdafbedaaaGreat
open Go.RowKit
set_option linter.unusedSimpArgs false
set_option linter.unusedVariables false

/-- The error of Get, and its number. -/
def getE (n0 : Nat) (k : Int) : Int := if k < 0 ∨ 8 < k then 1 else if (n0 : Int) < k then 5 else 0
def getN (bs : List Int) (n0 : Nat) (k : Int) : Int := if getE n0 k = 0 then told (bs.take k.toNat) else 0
theorem rd_bytes {w : World} {A : Option Addr} {n : Nat} {xs : List Int} (h : Rd w .u8 A n xs) : ∀ x ∈ xs, 0 ≤ x ∧ x ≤ 255 := fun x hx => wf_bounds_u8 (h.wf x hx)
theorem told8 (l : List Int) (h : ∀ x ∈ l, 0 ≤ x ∧ x ≤ 255) (hl : l.length ≤ 7) : 0 ≤ told l ∧ told l < 72057594037927936 := by
  have h1 := told_bounds l h
  have h2 : pow256 l.length ≤ 72057594037927936 := by
    rcases l with _ | ⟨_, _ | ⟨_, _ | ⟨_, _ | ⟨_, _ | ⟨_, _ | ⟨_, _ | ⟨_, _ | ⟨_, l⟩⟩⟩⟩⟩⟩⟩⟩ <;> simp [pow256] at hl ⊢
  omega
theorem take_snoc {α : Type} (l : List α) (j : Nat) (hj : j < l.length) (d : α) : l.take (j + 1) = l.take j ++ [l[j]?.getD d] := by
  rw [List.take_succ_eq_append_getElem hj]; simp [hj]

theorem cells_of_rd {w : World} {A : Option Addr} {n k : Nat} {xs : List Int} (h : Rd w .u8 A n xs) (hk : k ≤ n) (g off : Nat) (dp : Option Addr) (hd : 0 < k → dp = some ⟨g, off, none⟩) :
    0 < ((xs.take k).map (Value.int .u8)).length → dp = some ⟨g, off, none⟩ ∧ ∃ ad, A = some ad ∧ ∀ j v, ((xs.take k).map (Value.int .u8))[j]? = some v → w.cell? (ad.add j) = some v := by
  intro hp
  have hl := h.len
  have hp' : 0 < k := by simp at hp; omega
  obtain ⟨b, o, e, _, hc⟩ := h.row (by omega)
  refine ⟨hd hp', _, e, fun j v hv => ?_⟩
  have ha : (⟨b, o, none⟩ : Addr).add j = ⟨b, o + j, none⟩ := by unfold Addr.add; split <;> simp_all
  have hj : j < k := by
    rcases Nat.lt_or_ge j k with h | h
    · exact h
    · rw [List.getElem?_eq_none (by simp; omega)] at hv; cases hv
  rw [ha, hc j (by omega)]
  simpa [List.getElem?_take, hj, show j < xs.length by omega] using hv
theorem one_u8 (xs : List Int) : ∀ v ∈ xs.map (Value.int .u8), v.oneCell' = true := by
  intro v hv
  obtain ⟨x, _, rfl⟩ := List.mem_map.1 hv
  rfl
end Go.Proofs.YtgecfcdafbedaaaGreat
