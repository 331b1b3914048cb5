/- A parameter that is a list of pieces, a packet: opened; The law PacketsPut: its parameter opened. -/
import Derived.Test.YtjikjdignhdipaaGreatDoorOpen
import Derived.Test.YtjikjdignhdipaaGreatDoorZRPacketsPut7
import Derived.Test.YtjikjdignhdipaaGreatDoorZRPacketsPut17
import Derived.Deep.SlicePairs
import Derived.Test.YtjikjdignhdipaaGreatDoorZRPacketsPut49
namespace Go.Proofs.YtjikjdignhdipaaGreatDoor
open Go.RowKit Go.ChangeShapes Go.WideShapes
set_option linter.unusedSimpArgs false
set_option linter.unusedVariables false
section
variable {H : Type} {enc : TypeId × Value → H} {w : World} {held : Bool} {fuel : Nat} {cs : List Value} {x : DataW H × List MemPlace}

theorem open_piecesC (h : DataW.trod enc Tryz.prog w 0 (fun _ => true) held fuel 25 cs = some x) (hx : Light Tryz.prog 25 x.1) : ∃ A n c ps, cs = [.slice A n c] ∧ Ps w A n ps ∧ n ≤ c := by
  rcases Go.Deep.open_slice_pairs (f0 := _) (f1 := _) Tryz.underlying25 Tryz.underlying82 (by kernel_rfl) rfl rfl (by kernel_rfl) (by kernel_rfl) h with ⟨rfl, _⟩ | ⟨a, len, cap, m, n, V0, V1, D0, D1, P0, P1, rfl, _, hl, hm, hmm, rfl, hc⟩
  · exact ⟨none, 0, 0, [], rfl, ps_nil w, Nat.le_refl _⟩
  · simp only [if_true] at hmm
    subst hmm
    have hw1 : (len + (m - len)) * Tryz.prog.bytesOf 82 ≤ reachBytes := by
      have := List.all_eq_true.1 hx (((List.map (fun i => DataW.agg [D0 i, D1 i]) (List.range len)).length + (List.map (fun j => DataW.agg [D0 (len + j), D1 (len + j)]) (List.range (m - len))).length) * Tryz.prog.bytesOf 82) (by simp [DataW.weights, Tryz.underlying25])
      simpa using this
    rw [show Tryz.prog.bytesOf 82 = 32 from by kernel_rfl] at hw1
    have hw2 : (len + (m - len)) * 32 ≤ 140737488351232 := hw1
    have hw3 : ∀ i, i < len → Light Tryz.prog 31 (D1 i) := fun i hi => List.all_eq_true.2 fun k hk => List.all_eq_true.1 hx k (by
      simp only [DataW.weights, Tryz.underlying25]
      refine List.mem_cons_of_mem _ (List.mem_append.2 (.inl ?_))
      refine weights_all (i := i) (d := DataW.agg [D0 i, D1 i]) (by simp [hi]) k ?_
      simp only [DataW.weights, Tryz.underlying82]
      exact DataW.weights_mem_each (j := 1) (t := 31) (d := D1 i) rfl rfl k hk)
    have each : ∀ i, i < len → ∃ p : Piece, ∃ B mm cc, (0 ≤ p.1 ∧ p.1 ≤ 65535) ∧ V0 i = .int .u16 p.1 ∧ V1 i = .slice B mm cc ∧ Rd w .u8 B mm p.2 ∧ mm ≤ cc ∧ (B = none → cc = 0) := fun i hi => by
      obtain ⟨_, _, h3, h4⟩ := hc i (by omega)
      obtain ⟨t, e3, hwf⟩ := cell_int Tryz.underlying60 h3
      obtain ⟨B, mm, cc, xs, e4, hsl⟩ := open_sl Tryz.underlying31 Tryz.underlying5 (by kernel_rfl) (by rw [show Tryz.prog.bytesOf 5 = 1 from by kernel_rfl]; omega) h4 (hw3 i hi)
      exact ⟨(t, xs), B, mm, cc, wf_bounds_u16 hwf, by simpa using e3, by simpa using e4, hsl.rd, hsl.le, hsl.nil⟩
    have hps : ∃ ps : List Piece, ps.length = len ∧ ∀ i, i < len → ∃ t body B mm cc, ps[i]? = some (t, body) ∧ (0 ≤ t ∧ t ≤ 65535) ∧ V0 i = .int .u16 t ∧ V1 i = .slice B mm cc ∧ Rd w .u8 B mm body ∧ mm ≤ cc ∧ (B = none → cc = 0) := by
      clear hc hx hw1 hw2 hw3 hl h hm
      induction len with
      | zero => exact ⟨[], rfl, fun i hi => absurd hi (by omega)⟩
      | succ len ih =>
        obtain ⟨ps, h1, h2⟩ := ih (fun i hi => each i (by omega))
        obtain ⟨p, B, mm, cc, h3⟩ := each len (by omega)
        refine ⟨ps ++ [p], by simp [h1], fun i hi => ?_⟩
        rcases Nat.lt_or_ge i len with h | h
        · obtain ⟨t, body, B', mm', cc', h4, h5⟩ := h2 i h
          exact ⟨t, body, B', mm', cc', by rw [List.getElem?_append_left (by omega)]; exact h4, h5⟩
        · obtain rfl : i = len := by omega
          exact ⟨p.1, p.2, B, mm, cc, by rw [List.getElem?_append_right (by omega), h1]; simp, h3⟩
    obtain ⟨ps, hp1, hp2⟩ := hps
    refine ⟨some a, len, m, ps, rfl, ⟨hp1, by omega, fun h0 => ?_⟩, by omega⟩
    obtain ⟨b, off, sp⟩ := a
    have hs : sp = none := by
      have := (hc 0 (by omega)).1
      simpa [Addr.add] using World.cell?_spot this
    subst hs
    have hadd : ∀ j, (⟨b, off, none⟩ : Addr).add j = ⟨b, off + j, none⟩ := fun j => by unfold Addr.add; split <;> simp_all
    refine ⟨b, off, rfl, ?_, fun j hj => ?_⟩
    · have := (hc 0 (by omega)).1
      rw [hadd] at this
      exact World.block_lt_of_cell? _ _ this
    · obtain ⟨t, body, B, mm, cc, g1, g2, g3, g4, g5, g6, g7⟩ := hp2 j hj
      obtain ⟨q1, q2, _, _⟩ := hc j (by omega)
      rw [hadd, g3] at q1
      rw [hadd, g4] at q2
      exact ⟨t, body, B, mm, cc, g1, g2, q1, q2, g5, g6, g7⟩
theorem open_pieces (h : DataW.trod enc Tryz.prog w 0 (fun _ => true) held fuel 25 cs = some x) (hx : Light Tryz.prog 25 x.1) : ∃ A n c ps, cs = [.slice A n c] ∧ Ps w A n ps := by
  obtain ⟨A, n, c, ps, e, h, _⟩ := open_piecesC h hx
  exact ⟨A, n, c, ps, e, h⟩
end
end Go.Proofs.YtjikjdignhdipaaGreatDoor

namespace Go.Proofs.YtjikjdignhdipaaGreatDoor
open Go.RowKit Go.ChangeShapes Go.WideShapes
set_option linter.unusedSimpArgs false
set_option linter.unusedVariables false

theorem psSize_le {w : World} {A : Option Addr} {n : Nat} {ps : List Piece} (h : Ps w A n ps) : psSize ps ≤ 281474976710656 := by
  have hb : ∀ p ∈ ps, p.2.length ≤ 140737488351232 := fun p hp => by
    obtain ⟨j, hj, e⟩ := List.getElem_of_mem hp
    obtain ⟨b, off, _, _, hc⟩ := h.row (by have := h.len; omega)
    obtain ⟨t, body, B, m, c, h1, h2, _, _, h5, _, _⟩ := hc j (by have := h.len; omega)
    have : p = (t, body) := by rw [List.getElem?_eq_getElem hj] at h1; injection h1 with h1; rw [← e, h1]
    subst this
    have := h5.len; have := h5.big
    simp only; omega
  have := cntP_le 140737488351232 ps ps.length hb (by have := h.len; have := h.big; omega)
  unfold psSize; omega
theorem four_parts (cs : List Value) (h : cs.length = 34) : cs.take 1 ++ ((cs.drop 1).take 16 ++ ((cs.drop 17).take 16 ++ (cs.drop 33).take 1)) = cs := by
  have a1 : (cs.drop 33).take 1 = cs.drop 33 := List.take_of_length_le (by simp [h])
  have a2 : (cs.drop 17).take 16 ++ cs.drop 33 = cs.drop 17 := by
    have := List.take_append_drop 16 (cs.drop 17)
    rwa [List.drop_drop] at this
  have a3 : (cs.drop 1).take 16 ++ cs.drop 17 = cs.drop 1 := by
    have := List.take_append_drop 16 (cs.drop 1)
    rwa [List.drop_drop] at this
  rw [a1, a2, a3]
  exact List.take_append_drop 1 cs
set_option maxRecDepth 100000 in
theorem packetsPut_walk {H : Type} {enc : TypeId × Value → H} {base : Nat} {d0 : DataW H} {p0 : List MemPlace} (v0 : Value) (w : World)
    (o0 : Value.okWide Tryz.prog w .any base 27 v0) (k0 : DataW.Trod enc Tryz.prog w 0 (fun _ => true) true 27 v0 d0 p0) (z0 : (d0.weights Tryz.prog 27).all (· ≤ reachBytes) = true) :
    Calls Tryz.prog 3 #[v0] w fun e w' => e = .returned (.bool true) ∧ Below w.heap.size w w' := by
  obtain ⟨cs0, rfl, hs0⟩ := okWide_agg (.inl ⟨_, Tryz.underlying27⟩) o0
  obtain ⟨f0, hf0⟩ := k0
  obtain ⟨hl, m, hp⟩ := open_struct Tryz.underlying27 hf0
  obtain ⟨y0, hy0, L0⟩ := hp 0 _ rfl
  obtain ⟨y1, hy1, L1⟩ := hp 1 _ rfl
  obtain ⟨y2, hy2, L2⟩ := hp 2 _ rfl
  obtain ⟨y3, hy3, L3⟩ := hp 3 _ rfl
  simp only at hy0 hy1 hy2 hy3 L3
  obtain ⟨kd, ek, wk⟩ := cell_int Tryz.underlying22 hy0
  obtain ⟨fl, ef, hfl, hfw⟩ := open_array_ints Tryz.underlying24 Tryz.underlying5 (by kernel_rfl) (by kernel_rfl) hy1
  obtain ⟨tl, et, htl, htw⟩ := open_array_ints Tryz.underlying24 Tryz.underlying5 (by kernel_rfl) (by kernel_rfl) hy2
  obtain ⟨A, n, c, ps, ep, hps⟩ := open_pieces hy3 (L3 z0)
  obtain ⟨cs0⟩ := cs0
  simp only [Value.cells] at hl ek ef et ep
  rw [show Tryz.prog.cellsOf 27 = 34 by kernel_rfl] at hl
  rw [show Tryz.prog.cellsOf 22 = 1 by kernel_rfl] at ek
  rw [show Tryz.prog.cellsOf 24 = 16 by kernel_rfl] at ef et
  rw [show Tryz.prog.cellsOf 25 = 1 by kernel_rfl] at ep
  have e := four_parts cs0 hl
  rw [List.drop_zero] at ek
  rw [ek, ef, et, ep] at e
  have hcs : cs0 = pktC kd fl tl (.slice A n c) := e.symm
  rw [hcs]
  exact pput_at kd fl tl ps A n c w hps hfl htl (fun x hx => wf_bounds_u8 (hfw x hx)) (fun x hx => wf_bounds_u8 (htw x hx)) (wf_bounds_u8 wk) (psSize_le hps)
end Go.Proofs.YtjikjdignhdipaaGreatDoor
