/- A parameter that is a list of pieces, a packet: opened. -/
import Derived.Test.YtlcnjdpfijgcdaaOpen
import Derived.Test.YtlcnjdpfijgcdaaKMay
import Derived.Test.YtlcnjdpfijgcdaaKPaGet
import Derived.Deep.SlicePairs
namespace Go.Proofs.Ytlcnjdpfijgcdaa
open Go.RowKit Go.ChangeShapes Go.WideShapes
set_option linter.unusedSimpArgs false
set_option linter.unusedVariables false
section
variable {H : Type} {enc : TypeId × Value → H} {w : World} {held : Bool} {fuel : Nat} {cs : List Value} {x : DataW H × List MemPlace}

theorem open_piecesC (h : DataW.trod enc Try.prog w 0 (fun _ => true) held fuel 66 cs = some x) (hx : Light Try.prog 66 x.1) : ∃ A n c ps, cs = [.slice A n c] ∧ Ps w A n ps ∧ n ≤ c := by
  rcases Go.Deep.open_slice_pairs (f0 := _) (f1 := _) Try.underlying66 Try.underlying69 (by kernel_rfl) rfl rfl (by kernel_rfl) (by kernel_rfl) h with ⟨rfl, _⟩ | ⟨a, len, cap, m, n, V0, V1, D0, D1, P0, P1, rfl, _, hl, hm, hmm, rfl, hc⟩
  · exact ⟨none, 0, 0, [], rfl, ps_nil w, Nat.le_refl _⟩
  · simp only [if_true] at hmm
    subst hmm
    have hw1 : (len + (m - len)) * Try.prog.bytesOf 69 ≤ reachBytes := by
      have := List.all_eq_true.1 hx (((List.map (fun i => DataW.agg [D0 i, D1 i]) (List.range len)).length + (List.map (fun j => DataW.agg [D0 (len + j), D1 (len + j)]) (List.range (m - len))).length) * Try.prog.bytesOf 69) (by simp [DataW.weights, Try.underlying66])
      simpa using this
    rw [show Try.prog.bytesOf 69 = 32 from by kernel_rfl] at hw1
    have hw2 : (len + (m - len)) * 32 ≤ 140737488351232 := hw1
    have hw3 : ∀ i, i < len → Light Try.prog 38 (D1 i) := fun i hi => List.all_eq_true.2 fun k hk => List.all_eq_true.1 hx k (by
      simp only [DataW.weights, Try.underlying66]
      refine List.mem_cons_of_mem _ (List.mem_append.2 (.inl ?_))
      refine weights_all (i := i) (d := DataW.agg [D0 i, D1 i]) (by simp [hi]) k ?_
      simp only [DataW.weights, Try.underlying69]
      exact DataW.weights_mem_each (j := 1) (t := 38) (d := D1 i) rfl rfl k hk)
    have each : ∀ i, i < len → ∃ p : Piece, ∃ B mm cc, (0 ≤ p.1 ∧ p.1 ≤ 65535) ∧ V0 i = .int .u16 p.1 ∧ V1 i = .slice B mm cc ∧ Rd w .u8 B mm p.2 ∧ mm ≤ cc ∧ (B = none → cc = 0) := fun i hi => by
      obtain ⟨_, _, h3, h4⟩ := hc i (by omega)
      obtain ⟨t, e3, hwf⟩ := cell_int Try.underlying67 h3
      obtain ⟨B, mm, cc, xs, e4, hsl⟩ := open_sl Try.underlying38 Try.underlying5 (by kernel_rfl) (by rw [show Try.prog.bytesOf 5 = 1 from by kernel_rfl]; omega) h4 (hw3 i hi)
      exact ⟨(t, xs), B, mm, cc, wf_bounds_u16 hwf, by simpa using e3, by simpa using e4, hsl.rd, hsl.le, hsl.nil⟩
    have hps : ∃ ps : List Piece, ps.length = len ∧ ∀ i, i < len → ∃ t body B mm cc, ps[i]? = some (t, body) ∧ (0 ≤ t ∧ t ≤ 65535) ∧ V0 i = .int .u16 t ∧ V1 i = .slice B mm cc ∧ Rd w .u8 B mm body ∧ mm ≤ cc ∧ (B = none → cc = 0) := by
      clear hc hx hw1 hw2 hw3 hl h hm
      induction len with
      | zero => exact ⟨[], rfl, fun i hi => absurd hi (by omega)⟩
      | succ len ih =>
        obtain ⟨ps, h1, h2⟩ := ih (fun i hi => each i (by omega))
        obtain ⟨p, B, mm, cc, h3⟩ := each len (by omega)
        refine ⟨ps ++ [p], by simp [h1], fun i hi => ?_⟩
        rcases Nat.lt_or_ge i len with h | h
        · obtain ⟨t, body, B', mm', cc', h4, h5⟩ := h2 i h
          exact ⟨t, body, B', mm', cc', by rw [List.getElem?_append_left (by omega)]; exact h4, h5⟩
        · obtain rfl : i = len := by omega
          exact ⟨p.1, p.2, B, mm, cc, by rw [List.getElem?_append_right (by omega), h1]; simp, h3⟩
    obtain ⟨ps, hp1, hp2⟩ := hps
    refine ⟨some a, len, m, ps, rfl, ⟨hp1, by omega, fun h0 => ?_⟩, by omega⟩
    obtain ⟨b, off, sp⟩ := a
    have hs : sp = none := by
      have := (hc 0 (by omega)).1
      simpa [Addr.add] using World.cell?_spot this
    subst hs
    have hadd : ∀ j, (⟨b, off, none⟩ : Addr).add j = ⟨b, off + j, none⟩ := fun j => by unfold Addr.add; split <;> simp_all
    refine ⟨b, off, rfl, ?_, fun j hj => ?_⟩
    · have := (hc 0 (by omega)).1
      rw [hadd] at this
      exact World.block_lt_of_cell? _ _ this
    · obtain ⟨t, body, B, mm, cc, g1, g2, g3, g4, g5, g6, g7⟩ := hp2 j hj
      obtain ⟨q1, q2, _, _⟩ := hc j (by omega)
      rw [hadd, g3] at q1
      rw [hadd, g4] at q2
      exact ⟨t, body, B, mm, cc, g1, g2, q1, q2, g5, g6, g7⟩
theorem open_pieces (h : DataW.trod enc Try.prog w 0 (fun _ => true) held fuel 66 cs = some x) (hx : Light Try.prog 66 x.1) : ∃ A n c ps, cs = [.slice A n c] ∧ Ps w A n ps := by
  obtain ⟨A, n, c, ps, e, h, _⟩ := open_piecesC h hx
  exact ⟨A, n, c, ps, e, h⟩
end
end Go.Proofs.Ytlcnjdpfijgcdaa
