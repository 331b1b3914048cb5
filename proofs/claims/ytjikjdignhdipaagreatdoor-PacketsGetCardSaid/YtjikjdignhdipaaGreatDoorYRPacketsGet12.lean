/- The walk over the document's Get of pieces. -/
import Derived.Test.YtjikjdignhdipaaGreatDoorYRPacketsGet5
import Derived.Test.YtjikjdignhdipaaGreatDoorYRPacketsGet10
import Derived.Test.YtjikjdignhdipaaGreatDoorYRPacketsGet11
namespace Go.Proofs.YtjikjdignhdipaaGreatDoor
open Go.RowKit
set_option linter.unusedSimpArgs false
set_option linter.unusedVariables false

/-- The pieces so far. -/
def ROut (w0 : World) (v : Value) (outs : List Piece) (w : World) : Prop :=
  ∃ cells, w.ownsRow w0.heap.size 82 2 v outs.length cells ∧ ∀ j t body, outs[j]? = some (t, body) → ∃ B c, cells[j * 2]? = some (.int .u16 t) ∧ cells[j * 2 + 1]? = some (.slice B body.length c) ∧ RowG 5 1 w0.heap.size w (.slice B body.length c) body.length (body.map (Value.int .u8))
theorem ROut.below {w0 w w' : World} {v : Value} {outs : List Piece} (h : ROut w0 v outs w) (hB : Below w.heap.size w w') : ROut w0 v outs w' := by
  obtain ⟨cells, ho, hb⟩ := h
  refine ⟨cells, (Keeps.of_below (M := fun _ => False) hB).own ho (fun _ _ h => h), fun j t body hj => ?_⟩
  obtain ⟨B, c, h1, h2, h3⟩ := hb j t body hj
  exact ⟨B, c, h1, h2, h3.below hB⟩
theorem ROut.snoc {w0 w w1 : World} {v v1 : Value} {outs : List Piece} {cells : List Value} {t : Int} {body : List Int} {B : Option Addr} {c : Nat} (ho : w.ownsRow w0.heap.size 82 2 v outs.length cells)
    (hb : ∀ j t body, outs[j]? = some (t, body) → ∃ B c, cells[j * 2]? = some (.int .u16 t) ∧ cells[j * 2 + 1]? = some (.slice B body.length c) ∧ RowG 5 1 w0.heap.size w (.slice B body.length c) body.length (body.map (Value.int .u8)))
    (hB : RowG 5 1 w0.heap.size w (.slice B body.length c) body.length (body.map (Value.int .u8)))
    (ho1 : w1.ownsRow w0.heap.size 82 2 v1 (outs.length + 1) (cells ++ [.int .u16 t, .slice B body.length c])) (hk : Keeps (fun i => v.ownBlock = some i) w w1) : ROut w0 v1 (outs ++ [(t, body)]) w1 := by
  have hM : ∀ {B : Option Addr} {body : List Int} {c : Nat}, RowG 5 1 w0.heap.size w (.slice B body.length c) body.length (body.map (Value.int .u8)) → RowG 5 1 w0.heap.size w1 (.slice B body.length c) body.length (body.map (Value.int .u8)) := fun hr => hr.keep hk (fun k hk2 hv => by
    obtain ⟨_, _, cur, hc⟩ := hr.ty hk2
    obtain ⟨_, _, cur2, hc2⟩ := own_type ho hv
    exact absurd (ty_one hc hc2) (by decide))
  have hcl : cells.length = outs.length * 2 := ho.1
  refine ⟨_, by simpa using ho1, fun j t' body' hj => ?_⟩
  rcases Nat.lt_or_ge j outs.length with h | h
  · rw [List.getElem?_append_left h] at hj
    obtain ⟨B', c', h1, h2, h3⟩ := hb j t' body' hj
    exact ⟨B', c', by rw [List.getElem?_append_left (by omega)]; exact h1, by rw [List.getElem?_append_left (by omega)]; exact h2, hM h3⟩
  · have hj' : j = outs.length := by
      have := (List.getElem?_eq_some_iff.1 hj).1
      simp at this; omega
    subst hj'
    simp only [List.getElem?_append_right (Nat.le_refl _), Nat.sub_self, List.getElem?_cons_zero, Option.some.injEq, Prod.mk.injEq] at hj
    obtain ⟨rfl, rfl⟩ := hj
    refine ⟨B, c, ?_, ?_, hM hB⟩
    · rw [List.getElem?_append_right (by omega), hcl, Nat.sub_self]; rfl
    · rw [List.getElem?_append_right (by omega), hcl, show outs.length * 2 + 1 - outs.length * 2 = 1 by omega]; rfl
theorem ROut.ps {w0 w : World} {outs : List Piece} {A : Option Addr} {n c : Nat} (h : ROut w0 (.slice A n c) outs w) (hn : outs.length = n) (h16 : n ≤ 16) (hok : ∀ p ∈ outs, okPiece p) (hlen : ∀ p ∈ outs, p.2.length ≤ 2048) : Ps w A n outs := by
  obtain ⟨cells, ho, hb⟩ := h
  refine ⟨hn, by omega, fun h0 => ?_⟩
  rcases ho.2 with ⟨e, _⟩ | ⟨g, cap, cur, e, _, hh, _⟩
  · injection e with _ e _; omega
  · injection e with e _ _
    subst e
    refine ⟨g, 0, rfl, (Array.getElem?_eq_some_iff.1 hh).1, fun j hj => ?_⟩
    have hj' : j < outs.length := by omega
    obtain ⟨p, hp⟩ : ∃ p, outs[j] = p := ⟨_, rfl⟩
    obtain ⟨t, body⟩ := p
    have hjj : outs[j]? = some (t, body) := by rw [List.getElem?_eq_getElem hj', hp]
    have hm : (t, body) ∈ outs := List.mem_of_getElem? hjj
    obtain ⟨B, cb, h1, h2, h3⟩ := hb j t body hjj
    have hk := hok _ hm
    have hl := hlen _ hm
    have ha : ∀ q, (⟨g, 0, none⟩ : Addr).add q = ⟨g, q, none⟩ := fun q => by unfold Addr.add; split <;> simp_all
    refine ⟨t, body, B, body.length, cb, hjj, ⟨hk.1, hk.2.1⟩, ?_, ?_, h3.rd hk.2.2 (by simp at hl; omega), h3.room, fun e => by subst e; exact h3.none_cap.2⟩
    · have := ho.cells (g := g) rfl (j * 2) _ h1
      rw [ha] at this
      rw [Nat.zero_add]; exact this
    · have := ho.cells (g := g) rfl (j * 2 + 1) _ h2
      rw [ha] at this
      rw [Nat.zero_add]; exact this
/-- Who changes what is older alone leaves it. -/
theorem ROut.under {w0 w w' : World} {v : Value} {outs : List Piece} (h : ROut w0 v outs w) (hk : Keeps (fun i => i < w0.heap.size) w w') : ROut w0 v outs w' := by
  obtain ⟨cells, ho, hb⟩ := h
  refine ⟨cells, hk.own ho (fun k hk2 hlt => ?_), fun j t body hj => ?_⟩
  · have := (own_type ho hk2).1
    omega
  · obtain ⟨B, c, h1, h2, h3⟩ := hb j t body hj
    refine ⟨B, c, h1, h2, h3.keep hk (fun k hk2 hlt => ?_)⟩
    have := (h3.ty hk2).1
    omega
/-- What the document's Get hands back. -/
def RGetRes (w : World) (R : Int × List Piece) (e : Ending) (w' : World) : Prop :=
  (R.1 ≠ 0 ∧ e = .returned (.tuple #[.slice none 0 0, .int .i64 R.1]) ∧ Below w.heap.size w w') ∨
  ∃ A c, R.1 = 0 ∧ e = .returned (.tuple #[.slice A R.2.length c, .int .i64 0]) ∧ (∀ W, Keeps (fun i => i < w.heap.size) w' W → Ps W A R.2.length R.2) ∧ Below w.heap.size w w'
theorem any_snoc (l : List Int) (k : Nat) (h : k < l.length) : (l.take (k + 1)).any (fun x => decide (x ≠ 0)) = ((l.take k).any (fun x => decide (x ≠ 0)) || decide (l[k]?.getD 0 ≠ 0)) := by
  rw [List.take_succ_eq_append_getElem h, List.any_append]
  simp [h]
theorem any_more (l : List Int) (k m : Nat) (hkm : k ≤ m) (h : (l.take k).any (fun x => decide (x ≠ 0)) = true) : (l.take m).any (fun x => decide (x ≠ 0)) = true := by
  rw [List.any_eq_true] at h ⊢
  obtain ⟨x, hx, h2⟩ := h
  refine ⟨x, ?_, h2⟩
  have e : l.take k = (l.take m).take k := by rw [List.take_take, Nat.min_eq_left hkm]
  rw [e] at hx
  exact List.mem_of_mem_take hx
theorem getGo_step (f : Nat) (last : Int) (outs : List Piece) (rest : List Int) (n m F : Nat) (t : Int) (hl : rest.length = n) (h0 : ¬ n = 0) (h4 : ¬ n < 4) (ht : told (rest.take 2) = t) (hm : told ((rest.drop 2).take 2) = (m : Int)) (hF : fill8 (4 + m) = F) :
    getGo (f + 1) last outs rest = if n < F then (5, []) else if t ≤ last then (4, []) else if ((rest.drop (4 + m)).take (F - (4 + m))).any (fun x => decide (x ≠ 0)) then (4, []) else if 16 ≤ outs.length then (3, []) else getGo f t (outs ++ [(t, (rest.drop 4).take m)]) (rest.drop F) := by
  rw [getGo, hl, if_neg h0, if_neg h4, ht, hm]
  simp only [Int.toNat_natCast, hF]

set_option maxRecDepth 100000 in
set_option maxHeartbeats 8000000 in
theorem refpaget_any (A0 : Option Addr) (n0 c0 : Nat) (bs : List Int) (w : World) (r0 : Rd w .u8 A0 n0 bs) (l0 : n0 ≤ c0) (hz0 : A0 = none → c0 = 0) :
    Calls Tryz.prog 88 #[.slice A0 n0 c0] w (RGetRes w (paGet bs)) := by
  have hbig := r0.big
  have hl := r0.len
  by_cases h2048 : 2048 < n0
  · have hE : paGet bs = (3, []) := by unfold paGet; rw [if_pos (by omega)]
    rw [hE]
    have h' : (2048 : Int) < (n0 : Int) := by omega
    clear hE
    go_enter Tryz.func88, Tryz.ntmps88
    go_wp2_with fail
    go_ret2
    exact .inl ⟨by decide, rfl, Below.refl _ _⟩
  · have hE : getGo (n0 + 1) 0 [] bs = paGet bs := by unfold paGet; rw [if_neg (by omega), hl]
    have h' : ¬ ((2048 : Int) < (n0 : Int)) := by omega
    have hbyte := rd_bytes r0
    have HE := Lib.hid hE
    have HR0 := Lib.hid r0
    have HL := Lib.hid hl
    have HZ := Lib.hid hz0
    have HBY := Lib.hid hbyte
    clear hE r0 hl hz0 hbyte
    generalize paGet bs = R at *
    go_enter Tryz.func88, Tryz.ntmps88
    go_wp2_with fail
    go_loopw [4, 5, 6] (fun v l a wr => ∃ (k f : Nat) (last : Int) (outs : List Piece), k ≤ n0 ∧ a = .int .i64 k ∧ l = .int .u64 last ∧ n0 - k < f ∧ getGo f last outs (bs.drop k) = R ∧ ROut w v outs wr ∧ Below w.heap.size w wr ∧ 0 ≤ last ∧ last ≤ 65535 ∧ outs.length ≤ 16 ∧ (∀ p ∈ outs, okPiece p) ∧ (∀ p ∈ outs, p.2.length ≤ 2048)) (fun _ _ a _ => n0 - (intOf a).toNat)
    case atStart => exact ⟨0, n0 + 1, 0, [], Nat.zero_le _, rfl, rfl, by omega, by rw [List.drop_zero]; exact HE.out, ⟨[], own_nil _ _ _ _, fun j t body h => by simp at h⟩, Below.refl _ _, by omega, by omega, by simp, by simp, by simp⟩
    case round =>
      obtain ⟨k, f, last, outs, hk, rfl, rfl, hf, hgo, hout, hB, hl0, hl1, ho16, hok, hbl⟩ := hrel
      have hrl : (bs.drop k).length = n0 - k := by rw [List.length_drop, HL.out]
      obtain ⟨f, rfl⟩ : ∃ f', f = f' + 1 := ⟨f - 1, by omega⟩
      obtain ⟨cells, hown, hbod⟩ := hout
      obtain ⟨AO, co, rfl, hco, -⟩ := own_slice hown
      have k0 : (0 : Int) ≤ (k : Int) := by omega
      have HGO := Lib.hid hgo
      have HOWN := Lib.hid hown
      have HBOD := Lib.hid hbod
      have HB := Lib.hid hB
      have HOK := Lib.hid hok
      have HBL := Lib.hid hbl
      have HRL := Lib.hid hrl
      clear hgo hown hbod hB hok hbl hrl
      by_cases hkn : k < n0
      · have k1 : (k : Int) < (n0 : Int) := by omega
        have HSUB : Hid (IntKind.i64.wrap ((n0 : Int) - (k : Int)) = ((n0 - k : Nat) : Int)) := Lib.hid (by rw [IntWalk.i64_in _ (by omega)]; omega)
        by_cases hn4 : n0 - k < 4
        · have hR : R = (5, []) := by rw [← HGO.out, getGo, HRL.out, if_neg (by omega), if_pos hn4]
          have HR := Lib.hid hR
          have q2 : ((n0 - k : Nat) : Int) < 4 := by omega
          clear hR
          have hsub := HSUB.out
          go_wp2_with fail
          go_ret2
          exact .inl ⟨by rw [HR.out]; decide, by rw [HR.out]; rfl, HB.out⟩
        · have q2 : ¬ ((n0 - k : Nat) : Int) < 4 := by omega
          obtain ⟨A1, hs1', hr1, hz1⟩ := slice_from A0 n0 c0 k (by omega) l0 HZ.out
          obtain ⟨A2, hs2', hr2, hz2⟩ := slice_from A0 n0 c0 (k + 2) (by omega) l0 HZ.out
          have hs1 : ∀ W : World, (Instr.slice 31 (.slice A0 n0 c0) (some (.int .i64 (k : Int))) none none).run Tryz.prog W = .ok (.slice A1 (n0 - k) (c0 - k)) W := hs1'
          have hs2 : ∀ W : World, (Instr.slice 31 (.slice A0 n0 c0) (some (.int .i64 ((k : Int) + 2))) none none).run Tryz.prog W = .ok (.slice A2 (n0 - (k + 2)) (c0 - (k + 2))) W := fun W => by
            have := hs2' W
            rwa [show ((k + 2 : Nat) : Int) = (k : Int) + 2 by omega] at this
          have HADD2 : Hid (IntKind.i64.wrap ((k : Int) + 2) = (k : Int) + 2) := Lib.hid (IntWalk.i64_in _ (by omega))
          have ht := told_bounds ((bs.drop k).take 2) (fun x hx => HBY.out x (List.mem_of_mem_drop (List.mem_of_mem_take hx)))
          have hm := told_bounds (((bs.drop k).drop 2).take 2) (fun x hx => HBY.out x (List.mem_of_mem_drop (List.mem_of_mem_drop (List.mem_of_mem_take hx))))
          have p2 : pow256 ((bs.drop k).take 2).length = 65536 := by rw [List.length_take, HRL.out, Nat.min_eq_left (by omega)]; rfl
          have p3 : pow256 (((bs.drop k).drop 2).take 2).length = 65536 := by rw [List.length_take, List.length_drop, HRL.out, Nat.min_eq_left (by omega)]; rfl
          rw [p2] at ht
          rw [p3] at hm
          obtain ⟨t, hte⟩ : ∃ t, told ((bs.drop k).take 2) = t := ⟨_, rfl⟩
          obtain ⟨m, hme⟩ := Int.eq_ofNat_of_zero_le hm.1
          rw [hte] at ht
          rw [hme] at hm
          have hme' : told (((bs.drop k).drop 2).take 2) = (m : Int) := hme
          have hg1 : ∀ W, Below w.heap.size w W → Calls Tryz.prog 87 #[.slice A1 (n0 - k) (c0 - k), .int .i64 2] W fun e w'' => e = .returned (.tuple #[.int .u64 t, .int .i64 0]) ∧ Below W.heap.size W w'' := fun W hW => by
            have := refget_any A1 (n0 - k) (c0 - k) (bs.drop k) 2 W (hr1 W bs (HR0.out.below hW)) (by omega)
            have e1 : getE (n0 - k) 2 = 0 := by unfold getE; rw [if_neg (by omega), if_neg (by omega)]
            have e2 : getN (bs.drop k) (n0 - k) 2 = t := by unfold getN; rw [e1]; exact hte
            rwa [e1, e2] at this
          have hg2 : ∀ W, Below w.heap.size w W → Calls Tryz.prog 87 #[.slice A2 (n0 - (k + 2)) (c0 - (k + 2)), .int .i64 2] W fun e w'' => e = .returned (.tuple #[.int .u64 (m : Int), .int .i64 0]) ∧ Below W.heap.size W w'' := fun W hW => by
            have := refget_any A2 (n0 - (k + 2)) (c0 - (k + 2)) (bs.drop (k + 2)) 2 W (hr2 W bs (HR0.out.below hW)) (by omega)
            have e1 : getE (n0 - (k + 2)) 2 = 0 := by unfold getE; rw [if_neg (by omega), if_neg (by omega)]
            have e2 : getN (bs.drop (k + 2)) (n0 - (k + 2)) 2 = (m : Int) := by unfold getN; rw [e1, ← List.drop_drop]; exact hme'
            rwa [e1, e2] at this
          obtain ⟨F, hFe⟩ : ∃ F, fill8 (4 + m) = F := ⟨_, rfl⟩
          have hF := fill8_ge (4 + m)
          rw [hFe] at hF
          have hR : R = _ := HGO.out.symm.trans (getGo_step f last outs (bs.drop k) (n0 - k) m F t HRL.out (by omega) hn4 hte hme' hFe)
          have HR := Lib.hid hR
          have HG1 := Lib.hid hg1
          have HG2 := Lib.hid hg2
          have ht0 := ht.1
          have ht1 : t ≤ 65535 := by omega
          have hm1 : m ≤ 65535 := by have := hm.2; first | omega | (simp only [Int.ofNat_eq_natCast] at this; omega)
          have HWM : Hid (IntKind.i64.wrap (m : Int) = (m : Int)) := Lib.hid (IntWalk.i64_in _ (by omega))
          have HW4M : Hid (IntKind.i64.wrap (4 + (m : Int)) = ((4 + m : Nat) : Int)) := Lib.hid (by rw [IntWalk.i64_in _ (by omega)]; omega)
          clear hs1' hs2' hr1 hr2 hz1 hz2 ht hm p2 p3 hte hme hme' hg1 hg2 hR HGO hFe
          have hsub := HSUB.out
          have hadd2 := HADD2.out
          have hwm := HWM.out
          have hw4m := HW4M.out
          go_wp2_with fail
          refine (HG1.out _ HB.out).mono ?_; rintro e w1 ⟨rfl, hB1⟩
          have HB1 := Lib.hid (HB.out.trans (hB1.mono HB.out.size))
          have HB1r := Lib.hid hB1
          clear hB1
          go_wp2_with fail
          refine (HG2.out _ HB1.out).mono ?_; rintro e w2 ⟨rfl, hB2⟩
          have HB2 := Lib.hid (HB1.out.trans (hB2.mono HB1.out.size))
          have HB2r := Lib.hid (HB1r.out.trans (hB2.mono HB1r.out.size))
          clear hB2 HB1 HB1r HG1 HG2
          go_wp2_with fail
          clear hsub hadd2 hwm hw4m
          go_loop [11] (fun v => ∃ x : Nat, 4 + m ≤ x ∧ x ≤ F ∧ v = .int .i64 x) (fun v => F - (intOf v).toNat)
          case atStart => exact ⟨4 + m, Nat.le_refl _, hF.1, by simp⟩
          case round =>
            obtain ⟨x, hx1, hx2, rfl⟩ := hrel
            have x0 : (0 : Int) ≤ (x : Int) := by omega
            have htm : (x : Int).tmod 8 = (x : Int) % 8 := Int.tmod_eq_emod_of_nonneg x0
            by_cases h8 : x % 8 = 0
            · have hq1 : ((x : Int) % 8 != 0) = false := by
                have : (x : Int) % 8 = 0 := by omega
                rw [this]; rfl
              obtain rfl : x = F := by omega
              clear h8
              by_cases hend : n0 - k < x
              · have hend' : ((n0 - k : Nat) : Int) < (x : Int) := by omega
                have HR2 : Hid (R = (5, [])) := Lib.hid (by rw [HR.out, if_pos hend])
                have hsub := HSUB.out
                go_wp2_with fail
                go_ret2
                exact .inl ⟨by rw [HR2.out]; decide, by rw [HR2.out]; rfl, HB2.out⟩
              · have hend' : ¬ ((n0 - k : Nat) : Int) < (x : Int) := by omega
                by_cases hlt : t ≤ last
                · have HR2 : Hid (R = (4, [])) := Lib.hid (by rw [HR.out, if_neg hend, if_pos hlt])
                  have hsub := HSUB.out
                  go_wp2_with fail
                  go_ret2
                  exact .inl ⟨by rw [HR2.out]; decide, by rw [HR2.out]; rfl, HB2.out⟩
                · have HR2 := Lib.hid (by rw [if_neg hend, if_neg hlt] at HR; exact HR.out : R = if (((bs.drop k).drop (4 + m)).take (x - (4 + m))).any (fun x => decide (x ≠ 0)) then (4, []) else if 16 ≤ outs.length then (3, []) else getGo f t (outs ++ [(t, ((bs.drop k).drop 4).take m)]) ((bs.drop k).drop x))
                  obtain ⟨D, hD⟩ : ∃ D, k + 4 + m = D := ⟨_, rfl⟩
                  have HADD4 : Hid (IntKind.i64.wrap ((k : Int) + 4) = (k : Int) + 4) := Lib.hid (IntWalk.i64_in _ (by omega))
                  have HADD4M : Hid (IntKind.i64.wrap ((k : Int) + 4 + (m : Int)) = (D : Int)) := Lib.hid (by rw [IntWalk.i64_in _ (by omega)]; omega)
                  have HADDF : Hid (IntKind.i64.wrap ((k : Int) + (x : Int)) = ((k + x : Nat) : Int)) := Lib.hid (by rw [IntWalk.i64_in _ (by omega)]; omega)
                  have hdd : (bs.drop k).drop (4 + m) = bs.drop D := by rw [List.drop_drop]; congr 1; omega
                  rw [hdd] at HR2
                  have hDx : x - (4 + m) = k + x - D := by omega
                  rw [hDx] at HR2
                  have hDn : D ≤ k + x := by omega
                  have hDN : k + x ≤ n0 := by omega
                  have hDl : (bs.drop D).length = n0 - D := by rw [List.length_drop, HL.out]
                  have HDL := Lib.hid hDl
                  have HDE := Lib.hid hD
                  have hsub := HSUB.out
                  have hadd4 := HADD4.out
                  have hadd4m := HADD4M.out
                  have hwm := HWM.out
                  clear hdd hDx hDl hD
                  go_wp2_with fail
                  clear hsub hadd4 hadd4m hwm
                  go_loop [12] (fun v => ∃ i : Nat, D ≤ i ∧ i ≤ k + x ∧ v = .int .i64 i ∧ ((bs.drop D).take (i - D)).any (fun x => decide (x ≠ 0)) = false) (fun v => k + x - (intOf v).toNat)
                  case atStart => exact ⟨D, Nat.le_refl _, hDn, rfl, by simp⟩
                  case round =>
                    obtain ⟨i, hi1, hi2, rfl, hany⟩ := hrel
                    have i0 : (0 : Int) ≤ (i : Int) := by omega
                    have HIA : Hid (IntKind.i64.wrap ((i : Int) + 1) = (i : Int) + 1) := Lib.hid (IntWalk.i64_in _ (by omega))
                    by_cases hik : i < k + x
                    · have hik' : (i : Int) < ((k + x : Nat) : Int) := by omega
                      have hin : (i : Int) < (n0 : Int) := by omega
                      obtain ⟨b, off, hA0, _, hc⟩ := (HR0.out.below HB2.out).row (by omega)
                      have hci := hc i (by omega)
                      have hsn := any_snoc (bs.drop D) (i - D) (by rw [HDL.out]; omega)
                      rw [hany, Bool.false_or, show i - D + 1 = i + 1 - D by omega, List.getElem?_drop, show D + (i - D) = i by omega] at hsn
                      have hmo := any_more (bs.drop D) (i + 1 - D) (k + x - D) (by omega)
                      obtain ⟨y, hy⟩ : ∃ y, bs[i]?.getD 0 = y := ⟨_, rfl⟩
                      rw [hy] at hci hsn
                      have HANY := Lib.hid hany
                      have HSN := Lib.hid hsn
                      have HMO := Lib.hid hmo
                      clear hany hsn hmo hc hy
                      by_cases hy0 : y = 0
                      · subst hy0
                        have HNX : Hid (((bs.drop D).take (i + 1 - D)).any (fun x => decide (x ≠ 0)) = false) := Lib.hid (by rw [HSN.out]; simp)
                        have haddF := HADDF.out
                        have hia := HIA.out
                        subst hA0
                        go_wp2_with fail
                        go_round
                        case rel => exact ⟨i + 1, by omega, by omega, by go_num, HNX.out⟩
                        case measure => simp [intOf]; omega
                      · have hyb : (y != 0) = true := by simpa using hy0
                        have HR3 : Hid (R = (4, [])) := Lib.hid (by rw [HR2.out, HMO.out (by rw [HSN.out]; simpa using hy0), if_pos rfl])
                        have haddF := HADDF.out
                        subst hA0
                        clear hy0
                        go_wp2_with fail
                        go_ret2
                        exact .inl ⟨by rw [HR3.out]; decide, by rw [HR3.out]; rfl, HB2.out⟩
                    · have hik' : ¬ (i : Int) < ((k + x : Nat) : Int) := by omega
                      obtain rfl : i = k + x := by omega
                      have HR3 := Lib.hid (by rw [hany, if_neg (by simp)] at HR2; exact HR2.out : R = if 16 ≤ outs.length then (3, []) else getGo f t (outs ++ [(t, ((bs.drop k).drop 4).take m)]) ((bs.drop k).drop x))
                      clear hany
                      by_cases h16 : 16 ≤ outs.length
                      · have h16' : (16 : Int) ≤ (outs.length : Int) := by omega
                        have HR4 : Hid (R = (3, [])) := Lib.hid (by rw [HR3.out, if_pos h16])
                        have haddF := HADDF.out
                        go_wp2_with fail
                        go_ret2
                        exact .inl ⟨by rw [HR4.out]; decide, by rw [HR4.out]; rfl, HB2.out⟩
                      · have h16' : ¬ (16 : Int) ≤ (outs.length : Int) := by omega
                        have HR4 : Hid (getGo f t (outs ++ [(t, ((bs.drop k).drop 4).take m)]) ((bs.drop k).drop x) = R) := Lib.hid (by rw [HR3.out, if_neg h16])
                        obtain ⟨A4, hs4', hr4, hz4⟩ := slice_mid A0 n0 c0 (k + 4) D (by have := HDE.out; omega) (by have := HDE.out; omega) l0 HZ.out
                        have hs4 : ∀ W : World, (Instr.slice 31 (.slice A0 n0 c0) (some (.int .i64 ((k : Int) + 4))) (some (.int .i64 (D : Int))) none).run Tryz.prog W = .ok (.slice A4 (D - (k + 4)) (c0 - (k + 4))) W := fun W => by
                          have := hs4' W
                          rwa [show ((k + 4 : Nat) : Int) = (k : Int) + 4 by omega] at this
                        have hDm : D - (k + 4) = m := by have := HDE.out; omega
                        have hbd : (bs.drop (k + 4)).take m = ((bs.drop k).drop 4).take m := by rw [List.drop_drop]
                        have hr4b := hr4 w2 bs (HR0.out.below HB2.out)
                        rw [hDm, hbd] at hr4b
                        rw [hDm] at hs4
                        obtain ⟨body, hbody⟩ : ∃ body, ((bs.drop k).drop 4).take m = body := ⟨_, rfl⟩
                        rw [hbody] at hr4b HR4
                        have hbl : body.length = m := hr4b.len
                        subst hbl
                        have HRB := Lib.hid hr4b
                        have HZ4 := Lib.hid hz4
                        have hbby := rd_bytes hr4b
                        have HBBY := Lib.hid hbby
                        have hwt : IntKind.u16.wrap t = t := IntWalk.u16_in _ (by omega)
                        have haddF := HADDF.out
                        have hadd4 := HADD4.out
                        have hadd4m := HADD4M.out
                        have hwm := HWM.out
                        have HMB : Hid (body.length ≤ 2048) := Lib.hid (by have := HDE.out; omega)
                        have hrow2 : w2.ownsRow w.heap.size 82 2 (.slice AO outs.length co) outs.length cells := (Keeps.of_below (M := fun _ => False) HB2r.out).own HOWN.out (fun _ _ h => h)
                        have hbod2 := (show ROut w (.slice AO outs.length co) outs wr from ⟨cells, HOWN.out, HBOD.out⟩).below HB2r.out
                        have HBODW : Hid (∀ (j : Nat) (t : Int) (body : List Int), outs[j]? = some (t, body) → ∃ B c, cells[j * 2]? = some (.int .u16 t) ∧ cells[j * 2 + 1]? = some (.slice B body.length c) ∧ RowG 5 1 w.heap.size w2 (.slice B body.length c) body.length (body.map (Value.int .u8))) := Lib.hid (fun j t body hj => by
                          obtain ⟨B, c, h1, h2, h3⟩ := HBOD.out j t body hj
                          exact ⟨B, c, h1, h2, h3.below HB2r.out⟩)
                        have HROW2 := Lib.hid hrow2
                        clear hs4' hr4 hz4 hDm hbd hr4b hbody hbby hrow2 hbod2 HR3 HR2 HR
                        go_wp2_with (first
                          | (at_builtin; refine append_one (W := w5) w.heap.size rfl _ _ 25 82 (.agg #[.int .u16 0, .slice none 0 0]) 2 32 rfl Tryz.underlying25 info_param rfl (by omega) (by omega) (.slice AO outs.length co) outs.length cells [.int .u16 t, .slice A5 body.length c5] rfl rfl rfl (by simp [Value.oneCell']) HROW5.out HB5.out.size (by omega) ?_; intro v7 w7 ho7 hk7 hb7; have HO7 := Lib.hid ho7; have HK7 := Lib.hid hk7; clear ho7 hk7 hb7)
                          | (at_builtin; refine append_bytes (w := w2) w.heap.size rfl _ _ rfl (.slice none 0 0) 0 [] rfl A4 body.length (c0 - (k + 4)) body rfl HRB.out HZ4.out (own_nil _ _ _ _) HB2.out.size (by omega) ?_
                             intro v5 w5 HO5 hg5 hat5
                             have hB25 : Below w2.heap.size w2 w5 := grown_below (Below.refl _ w2) hg5 (own_nil w2 w2.heap.size 5 1) (Nat.le_refl _)
                             have HB5 := Lib.hid (HB2.out.trans (hB25.mono HB2.out.size))
                             have HROW5 := Lib.hid ((Keeps.of_below (M := fun _ => False) hB25).own HROW2.out (fun _ _ h => h))
                             have HB25 := Lib.hid hB25
                             obtain ⟨A5, c5, rfl, -⟩ := own_slice HO5.out
                             clear hg5 hat5 hB25))
                        go_roundw
                        case rel =>
                          have hr5 : RowG 5 1 w.heap.size w5 (.slice A5 body.length c5) body.length (body.map (Value.int .u8)) := by
                            have := RowG.of_own HO5.out
                            rwa [Nat.zero_add, List.nil_append] at this
                          have ho7 := HO7.out
                          have hout7 : ROut w v7 (outs ++ [(t, body)]) w7 := ROut.snoc HROW5.out (fun j t body hj => by
                            obtain ⟨B, c, h1, h2, h3⟩ := HBODW.out j t body hj
                            exact ⟨B, c, h1, h2, h3.below HB25.out⟩) hr5 ho7 HK7.out
                          refine ⟨k + x, f, t, outs ++ [(t, body)], by omega, rfl, rfl, by omega, by rw [← List.drop_drop]; exact HR4.out, hout7, below_keeps HB5.out HK7.out (Nat.le_refl _) (fun i hi => (own_base HROW5.out i hi).1), ht0, ht1, by simp; omega, fun p hp => ?_, fun p hp => ?_⟩
                          · rcases List.mem_append.1 hp with hp | hp
                            · exact HOK.out p hp
                            · obtain rfl : p = (t, body) := by simpa using hp
                              exact ⟨ht0, ht1, HBBY.out⟩
                          · rcases List.mem_append.1 hp with hp | hp
                            · exact HBL.out p hp
                            · obtain rfl : p = (t, body) := by simpa using hp
                              exact HMB.out
                        case measure => simp [intOf]; omega
            · have hq1 : ((x : Int) % 8 != 0) = true := by
                have : ¬ (x : Int) % 8 = 0 := by omega
                simpa using this
              have HXA : Hid (IntKind.i64.wrap ((x : Int) + 1) = (x : Int) + 1) := Lib.hid (IntWalk.i64_in _ (by omega))
              have hxF : x + 1 ≤ F := by omega
              have hxa := HXA.out
              go_wp2_with fail
              go_round
              case rel => exact ⟨x + 1, by omega, hxF, by go_num⟩
              case measure => simp [intOf]; omega
      · obtain rfl : k = n0 := by omega
        have hdr : bs.drop k = [] := List.drop_eq_nil_of_le (by rw [HL.out]; exact Nat.le_refl _)
        have hR : R = (0, outs) := by rw [← HGO.out, hdr, getGo, if_pos List.length_nil]
        have HR := Lib.hid hR
        clear hR hdr
        go_wp2_with fail
        go_ret2
        exact .inr ⟨AO, co, by rw [HR.out], by rw [HR.out]; rfl, by rw [HR.out]; exact fun W hW => ((show ROut w (.slice AO outs.length co) outs wr from ⟨cells, HOWN.out, HBOD.out⟩).under hW).ps rfl ho16 HOK.out HBL.out, HB.out⟩
end Go.Proofs.YtjikjdignhdipaaGreatDoor
