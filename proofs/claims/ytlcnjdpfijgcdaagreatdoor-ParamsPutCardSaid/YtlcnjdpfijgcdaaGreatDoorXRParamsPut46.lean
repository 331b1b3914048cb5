/- A parameter that is a list of pieces, a packet: opened; The walk over the document's Told: the number that a row's bytes tell. -/
import Derived.Test.YtlcnjdpfijgcdaaGreatDoorXRParamsPut45
import Derived.Test.YtlcnjdpfijgcdaaGreatDoorXRParamsPut7
import Derived.Test.YtlcnjdpfijgcdaaGreatDoorXRParamsPut43
import Derived.Deep.SlicePairs
import Derived.Test.YtlcnjdpfijgcdaaGreatDoorXRParamsPut4
import Derived.BigQuiet
namespace Go.Proofs.YtlcnjdpfijgcdaaGreatDoor
open Go.RowKit Go.ChangeShapes Go.WideShapes
set_option linter.unusedSimpArgs false
set_option linter.unusedVariables false
section
variable {H : Type} {enc : TypeId × Value → H} {w : World} {held : Bool} {fuel : Nat} {cs : List Value} {x : DataW H × List MemPlace}

theorem open_piecesC (h : DataW.trod enc Tryz.prog w 0 (fun _ => true) held fuel 25 cs = some x) (hx : Light Tryz.prog 25 x.1) : ∃ A n c ps, cs = [.slice A n c] ∧ Ps w A n ps ∧ n ≤ c := by
  rcases Go.Deep.open_slice_pairs (f0 := _) (f1 := _) Tryz.underlying25 Tryz.underlying53 (by kernel_rfl) rfl rfl (by kernel_rfl) (by kernel_rfl) h with ⟨rfl, _⟩ | ⟨a, len, cap, m, n, V0, V1, D0, D1, P0, P1, rfl, _, hl, hm, hmm, rfl, hc⟩
  · exact ⟨none, 0, 0, [], rfl, ps_nil w, Nat.le_refl _⟩
  · simp only [if_true] at hmm
    subst hmm
    have hw1 : (len + (m - len)) * Tryz.prog.bytesOf 53 ≤ reachBytes := by
      have := List.all_eq_true.1 hx (((List.map (fun i => DataW.agg [D0 i, D1 i]) (List.range len)).length + (List.map (fun j => DataW.agg [D0 (len + j), D1 (len + j)]) (List.range (m - len))).length) * Tryz.prog.bytesOf 53) (by simp [DataW.weights, Tryz.underlying25])
      simpa using this
    rw [show Tryz.prog.bytesOf 53 = 32 from by kernel_rfl] at hw1
    have hw2 : (len + (m - len)) * 32 ≤ 140737488351232 := hw1
    have hw3 : ∀ i, i < len → Light Tryz.prog 22 (D1 i) := fun i hi => List.all_eq_true.2 fun k hk => List.all_eq_true.1 hx k (by
      simp only [DataW.weights, Tryz.underlying25]
      refine List.mem_cons_of_mem _ (List.mem_append.2 (.inl ?_))
      refine weights_all (i := i) (d := DataW.agg [D0 i, D1 i]) (by simp [hi]) k ?_
      simp only [DataW.weights, Tryz.underlying53]
      exact DataW.weights_mem_each (j := 1) (t := 22) (d := D1 i) rfl rfl k hk)
    have each : ∀ i, i < len → ∃ p : Piece, ∃ B mm cc, (0 ≤ p.1 ∧ p.1 ≤ 65535) ∧ V0 i = .int .u16 p.1 ∧ V1 i = .slice B mm cc ∧ Rd w .u8 B mm p.2 ∧ mm ≤ cc ∧ (B = none → cc = 0) := fun i hi => by
      obtain ⟨_, _, h3, h4⟩ := hc i (by omega)
      obtain ⟨t, e3, hwf⟩ := cell_int Tryz.underlying51 h3
      obtain ⟨B, mm, cc, xs, e4, hsl⟩ := open_sl Tryz.underlying22 Tryz.underlying5 (by kernel_rfl) (by rw [show Tryz.prog.bytesOf 5 = 1 from by kernel_rfl]; omega) h4 (hw3 i hi)
      exact ⟨(t, xs), B, mm, cc, wf_bounds_u16 hwf, by simpa using e3, by simpa using e4, hsl.rd, hsl.le, hsl.nil⟩
    have hps : ∃ ps : List Piece, ps.length = len ∧ ∀ i, i < len → ∃ t body B mm cc, ps[i]? = some (t, body) ∧ (0 ≤ t ∧ t ≤ 65535) ∧ V0 i = .int .u16 t ∧ V1 i = .slice B mm cc ∧ Rd w .u8 B mm body ∧ mm ≤ cc ∧ (B = none → cc = 0) := by
      clear hc hx hw1 hw2 hw3 hl h hm
      induction len with
      | zero => exact ⟨[], rfl, fun i hi => absurd hi (by omega)⟩
      | succ len ih =>
        obtain ⟨ps, h1, h2⟩ := ih (fun i hi => each i (by omega))
        obtain ⟨p, B, mm, cc, h3⟩ := each len (by omega)
        refine ⟨ps ++ [p], by simp [h1], fun i hi => ?_⟩
        rcases Nat.lt_or_ge i len with h | h
        · obtain ⟨t, body, B', mm', cc', h4, h5⟩ := h2 i h
          exact ⟨t, body, B', mm', cc', by rw [List.getElem?_append_left (by omega)]; exact h4, h5⟩
        · obtain rfl : i = len := by omega
          exact ⟨p.1, p.2, B, mm, cc, by rw [List.getElem?_append_right (by omega), h1]; simp, h3⟩
    obtain ⟨ps, hp1, hp2⟩ := hps
    refine ⟨some a, len, m, ps, rfl, ⟨hp1, by omega, fun h0 => ?_⟩, by omega⟩
    obtain ⟨b, off, sp⟩ := a
    have hs : sp = none := by
      have := (hc 0 (by omega)).1
      simpa [Addr.add] using World.cell?_spot this
    subst hs
    have hadd : ∀ j, (⟨b, off, none⟩ : Addr).add j = ⟨b, off + j, none⟩ := fun j => by unfold Addr.add; split <;> simp_all
    refine ⟨b, off, rfl, ?_, fun j hj => ?_⟩
    · have := (hc 0 (by omega)).1
      rw [hadd] at this
      exact World.block_lt_of_cell? _ _ this
    · obtain ⟨t, body, B, mm, cc, g1, g2, g3, g4, g5, g6, g7⟩ := hp2 j hj
      obtain ⟨q1, q2, _, _⟩ := hc j (by omega)
      rw [hadd, g3] at q1
      rw [hadd, g4] at q2
      exact ⟨t, body, B, mm, cc, g1, g2, q1, q2, g5, g6, g7⟩
theorem open_pieces (h : DataW.trod enc Tryz.prog w 0 (fun _ => true) held fuel 25 cs = some x) (hx : Light Tryz.prog 25 x.1) : ∃ A n c ps, cs = [.slice A n c] ∧ Ps w A n ps := by
  obtain ⟨A, n, c, ps, e, h, _⟩ := open_piecesC h hx
  exact ⟨A, n, c, ps, e, h⟩
end
end Go.Proofs.YtlcnjdpfijgcdaaGreatDoor

namespace Go.Proofs.YtlcnjdpfijgcdaaGreatDoor
open Go.RowKit
set_option linter.unusedSimpArgs false
set_option linter.unusedVariables false

theorem Rd.cut {w : World} {A : Option Addr} {n : Nat} {xs : List Int} (h : Rd w .u8 A n xs) (m : Nat) (hm : m ≤ n) : Rd w .u8 A m (xs.take m) := by
  rcases Nat.eq_zero_or_pos n with h0 | h0
  · obtain rfl : m = 0 := by omega
    exact ⟨by simp, by omega, by simp, fun h => absurd h (by omega)⟩
  · obtain ⟨b, off, rfl, hb, hc⟩ := h.row h0
    have := h.sub 0 m (by omega)
    simpa using this

set_option maxRecDepth 100000 in
set_option maxHeartbeats 1000000 in
theorem told_any (n : Nat) : ∀ (A : Option Addr) (c : Nat) (bs : List Int) (w : World), n ≤ 8 → Rd w .u8 A n bs → n ≤ c → Calls Tryz.prog 111 #[.slice A n c] w fun e w' => e = .returned (.int .u64 (told bs)) ∧ Drawn w w' := by
  induction n with
  | zero =>
    intro A c bs w _ r0 _
    have h0 := List.eq_nil_of_length_eq_zero r0.len
    subst h0
    clear r0
    go_enter Tryz.func111, Tryz.ntmps111
    go_wp2_with fail
    go_ret
    exact ⟨rfl, Drawn.refl _⟩
  | succ n ih =>
    intro A c bs w hn r0 hc
    have hl := r0.len
    have hbig := r0.big
    obtain ⟨b, off, rfl, _, hcell⟩ := r0.row (by omega)
    have hy := hcell n (by omega)
    have hcall : ∀ j : Nat, Calls Tryz.prog 111 #[.slice (some ⟨b, off, none⟩) n c] (w.drewN j) fun e W' => e = .returned (.int .u64 (told (bs.take n))) ∧ ∃ m, W' = w.drewN m := fun j => by
      have rW : Rd (w.drewN j) .u8 (some ⟨b, off, none⟩) (n + 1) bs := r0.below (below_drawn (Below.refl _ _) ⟨j, rfl⟩)
      refine (ih _ c _ (w.drewN j) (by omega) (rW.cut n (by omega)) (by omega)).mono ?_
      rintro e W' ⟨rfl, q, rfl⟩
      exact ⟨rfl, ((Drawn.refl w).step j).step q⟩
    have htb := told8 (bs.take n) (fun x hx => rd_bytes r0 x (List.mem_of_mem_take hx)) (by simp; omega)
    have hyb : 0 ≤ bs[n]?.getD 0 ∧ bs[n]?.getD 0 ≤ 255 := wf_bounds_u8 (r0.mem (by omega))
    have hts : told bs = 256 * told (bs.take n) + bs[n]?.getD 0 := by
      have e : bs = bs.take n ++ [bs[n]?.getD 0] := by
        have := take_snoc bs n (by omega) 0
        rw [List.take_of_length_le (by omega)] at this
        exact this
      exact (congrArg told e).trans (told_snoc _ _)
    rw [hts]
    have hsl : ∀ W : World, (Instr.slice 22 (.slice (some ⟨b, off, none⟩) (n + 1) c) none (some (.int .i64 (n : Int))) none).run Tryz.prog W = .ok (.slice (some ⟨b, off, none⟩) n c) W := fun W => slice_to W _ (n + 1) c n (by omega)
    generalize told (bs.take n) = T at *
    generalize bs[n]?.getD 0 = y at *
    obtain ⟨t0, t1⟩ := htb
    obtain ⟨y0, y1⟩ := hyb
    have HC := Lib.hid hcall
    have HD := Lib.hid (Drawn.refl w)
    obtain ⟨m, hm⟩ : ∃ m, n + 1 = m := ⟨_, rfl⟩
    rw [hm] at hsl ⊢
    have i0 : (0 : Int) ≤ (n : Int) := by omega
    have i1 : (n : Int) < (m : Int) := by omega
    have q0 : ((m : Int) == 0) = false := by rw [beq_eq_false_iff_ne]; omega
    have hw1 : IntKind.i64.wrap ((m : Int) - 1) = (n : Int) := by rw [IntWalk.i64_in _ (by omega)]; omega
    have hw1b : (m : Int) - 1 = (n : Int) := by omega
    have hw2 : IntKind.u64.wrap (256 * T) = 256 * T := IntWalk.u64_in _ (by omega)
    have hw3 : IntKind.u64.wrap (256 * T + y) = 256 * T + y := IntWalk.u64_in _ (by omega)
    have hw4 : IntKind.u64.wrap y = y := IntWalk.u64_in _ (by omega)
    have hmb : m ≤ 8 := by omega
    clear ih hcall hts r0 hcell hl hc hm hn hbig
    go_enter Tryz.func111, Tryz.ntmps111
    go_wp2_with fail
    go_quiet (first | (go_at_call 111; exact HC.out _))
    go_wp2_with fail
    go_ret
    exact ⟨rfl, _, rfl⟩
end Go.Proofs.YtlcnjdpfijgcdaaGreatDoor
