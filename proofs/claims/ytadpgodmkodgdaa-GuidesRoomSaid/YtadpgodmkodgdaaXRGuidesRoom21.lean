/- append(v, make([]byte, k)...) on a row of the call's own; The walk over params.Put: pieces as bytes. -/
import Derived.Test.YtadpgodmkodgdaaXRGuidesRoom5
import Derived.Test.YtadpgodmkodgdaaXRGuidesRoom18
import Derived.Test.YtadpgodmkodgdaaXRGuidesRoom14
import Derived.Deep.RegionHeld3
namespace Go.Proofs.Ytadpgodmkodgdaa
open Go.RowKit
set_option linter.unusedSimpArgs false
set_option linter.unusedVariables false

theorem zeroCells_list (k : Nat) : (Builtin.zeroCells #[Value.int .u8 0] k).toList = (List.replicate k (0 : Int)).map (Value.int .u8) := by
  rw [List.map_replicate]
  apply List.ext_getElem?
  intro i
  by_cases h : i < k <;> simp [Builtin.zeroCells, List.getElem?_replicate, List.getElem?_range, h, Nat.mod_one]
theorem append_zeros_own {w : World} (base : Nat) (ty : TypeId) (g n cap k : Nat) (xs : List Int) (HO : w.ownsRow base 5 1 (.slice (some ⟨g, 0, none⟩) n cap) n (xs.map (Value.int .u8))) (hbase : base ≤ w.heap.size) (hn : n ≤ 70368744177664) (hk : k ≤ 70368744177664) :
    ∃ v1 w1, (Builtin.append_ #[49, 3] ty #[.slice (some ⟨g, 0, none⟩) n cap, .int .i64 k]).run Try.prog w = .ok v1 w1 ∧ w1.ownsRow base 5 1 v1 (n + k) ((xs ++ List.replicate k 0).map (Value.int .u8)) ∧ w.grownBy w1 (some g) ∧ (v1.ownBlock = some g ∨ v1.ownBlock = some w.heap.size) := by
  obtain ⟨i0, hi, hzz⟩ := Option.map_eq_some_iff.1 info_u8n
  simp only [Prod.mk.injEq] at hzz
  obtain ⟨hz0, hz1, hz2⟩ := hzz
  have hxl : xs.length = n := by have := HO.1; simpa using this
  have hwk : IntKind.i64.wrap (k : Int) = k := IntWalk.i64_in _ (by omega)
  rcases HO.2 with ⟨h, _⟩ | ⟨g', cap', cur, e, hb, hh, hc, hm, hs, ht⟩
  · cases h
  · injection e with e1 _ e2
    injection e1 with e1
    injection e1 with e1
    subst e1 e2
    rw [Nat.mul_one] at hs ht
    by_cases hroom : n + k ≤ cap
    · have hz := zeroCells_list k
      have hst := run_storeCells_at Try.prog g n 5 (Builtin.zeroCells #[Value.int .u8 0] k).toList 0 cur w hh (by rw [hz]; simp; omega) (by rw [hz]; exact one_u8 _)
      simp only [Nat.add_zero] at hst
      have h48i : ¬ (281474976710656 < (k : Int) * (i0.bytes : Int)) := by rw [hz2]; omega
      have hneg : ¬ ((k : Int) < 0) := by omega
      have h48j : ¬ ((281474976710656 : Int) < (k : Int)) := by omega
      have hrun : (Builtin.append_ #[49, 3] ty #[.slice (some ⟨g, 0, none⟩) n cap, .int .i64 k]).run Try.prog w = .ok (.slice (some ⟨g, 0, none⟩) (n + k) cap) (w.setRow g (cur.toList.take n ++ (Builtin.zeroCells #[Value.int .u8 0] k).toList ++ cur.toList.drop (n + (Builtin.zeroCells #[Value.int .u8 0] k).toList.length)).toArray) := by
        by_cases hk0 : k = 0
        · subst hk0
          have e0 : (Builtin.zeroCells #[Value.int .u8 0] 0).toList = [] := by rw [zeroCells_list]; rfl
          rw [e0] at hst
          have hw0 : IntKind.i64.wrap 0 = 0 := by decide
          have hr0 : n ≤ cap := by omega
          simp [hw0, hr0, Builtin.append_, run_underlying Try.underlying49, run_underlying Try.underlying3, sizeOf, typeInfo, zeroValue, hi, hz0, hz1, hz2, asInt, asIntOf, hroom, Addr.add_lit, hst, e0]
        · simp [Builtin.append_, run_underlying Try.underlying49, run_underlying Try.underlying3, sizeOf, typeInfo, zeroValue, hi, hz0, hz1, hz2, asInt, asIntOf, hwk, hneg, h48i, h48j, hroom, hk0, Addr.add_lit, Value.cells, hst]
      refine ⟨_, _, hrun, ⟨by simp [hxl], .inr ⟨g, cap, _, rfl, hb, setRow_heap w g cur _ 5 _ hh, hroom, hm, ?_, ?_⟩⟩, ⟨rfl, rfl, rfl, by simp, fun i _ hne => setRow_other w g i _ (fun e => hne (by rw [e]))⟩, .inl rfl⟩
      · rw [hz]; simp; omega
      · rw [hz, ht, Nat.mul_one]
        have : n + k = (xs.map (Value.int .u8) ++ (List.replicate k (0 : Int)).map (Value.int .u8)).length := by simp [hxl]
        rw [this, List.take_left, List.map_append]
    · have hk0 : 0 < k := by omega
      have hold : (Builtin.firstCells i0.size n (.slice (some ⟨g, 0, none⟩) n cap)).run Try.prog w.drew = .ok (xs.map (Value.int .u8)).toArray w.drew :=
        run_firstCells_some w.drew i0.size n ⟨g, 0, none⟩ n cap (xs.map (Value.int .u8)) (by rw [hz1]; simp [hxl]) (fun j v hj => (HO.cells (g := g) rfl j v hj))
      have happ := Lib.run_append_grow_zeros w 49 3 ty 5 i0 (.int .u8 0) .i64 .i64 Try.underlying49 Try.underlying3 hi hz0 (some ⟨g, 0, none⟩) n cap _ hold k hk0 (by rw [hz1]; omega) (by omega) (by omega)
        (by rw [hz2]; omega) (by rw [hz2]; exact growslice_fits (by omega) (by omega))
      have hG : n + k ≤ grownCap w (n + k) cap 5 := grownCap_ge w _ _ _
      have hG2 : grownCap w (n + k) cap 5 ≤ maxLen := grownCap_le_maxLen w _ _ _ (by unfold maxLen; omega)
      refine ⟨_, _, happ, ⟨by simp [hxl], .inr ⟨w.heap.size, _, _, rfl, hbase, heap_alloc_new w.drew _, hG, hG2, ?_, ?_⟩⟩, ⟨rfl, rfl, rfl, by simp, fun i hi _ => Below.heap_alloc w.drew _ i hi⟩, .inr rfl⟩
      · simp [size_zeroCells, Value.cells, hxl]; omega
      · simp only [Array.toList_append, Value.cells, zeroCells_list, List.append_assoc]
        rw [← List.append_assoc, Nat.mul_one, List.take_append_of_le_length (by simp [hxl]), List.take_of_length_le (by simp [hxl]), List.map_append]
end Go.Proofs.Ytadpgodmkodgdaa

namespace Go.Proofs.Ytadpgodmkodgdaa
open Go.RowKit
set_option linter.unusedSimpArgs false
set_option linter.unusedVariables false

/-- A row of bytes of a call's own, read. -/
theorem own_rd {w : World} {base n : Nat} {v : Value} {xs : List Int} (h : w.ownsRow base 5 1 v n (xs.map (Value.int .u8))) (hb : ∀ x ∈ xs, 0 ≤ x ∧ x ≤ 255) (hn : n ≤ 140737488351232) :
    ∃ A c, v = .slice A n c ∧ Rd w .u8 A n xs ∧ n ≤ c ∧ (A = none → c = 0) ∧ (0 < n → ∃ g, A = some ⟨g, 0, none⟩ ∧ base ≤ g) := by
  rcases h.2 with ⟨rfl, rfl⟩ | ⟨g, cap, cur, rfl, hb', hh, hc, hm, hs, ht⟩
  · have : xs = [] := List.eq_nil_of_length_eq_zero (by have := h.1; simpa using this)
    subst this
    exact ⟨none, 0, rfl, rd_nil w .u8, Nat.le_refl _, fun _ => rfl, fun h => absurd h (by omega)⟩
  · exact ⟨_, cap, rfl, rd_own h hb hn, hc, (fun e => by cases e), fun _ => ⟨g, rfl, hb'⟩⟩
theorem own_blk {w : World} {base g n : Nat} {xs : List Int} (h : Blk w g 5 (xs.map (Value.int .u8))) (hb : base ≤ g) (hl : xs.length = n) (hn : n ≤ 140737488351232) : w.ownsRow base 5 1 (.slice (some ⟨g, 0, none⟩) n n) n (xs.map (Value.int .u8)) :=
  ⟨by simp [hl], .inr ⟨g, n, _, rfl, hb, h, Nat.le_refl _, by unfold maxLen; omega, by simp [hl], by rw [Nat.mul_one, ← hl]; exact List.take_of_length_le (by simp)⟩⟩
theorem pieces_take (ps : List Piece) (k : Nat) (p : Piece) (h : ps[k]? = some p) : pieces (ps.take (k + 1)) = pieces (ps.take k) ++ pieceB p := by
  have hk : k < ps.length := (List.getElem?_eq_some_iff.1 h).1
  have e : ps.take (k + 1) = ps.take k ++ [p] := by rw [List.take_succ_eq_append_getElem hk, (List.getElem?_eq_some_iff.1 h).2]
  rw [e, pieces_append]; simp [pieces]
theorem pieces_le : ∀ (l : List Piece), (∀ p ∈ l, p.2.length ≤ 2048) → (pieces l).length ≤ l.length * 2060
  | [], _ => by simp [pieces]
  | p :: l, h => by
    have h1 := pieces_le l (fun q hq => h q (by simp [hq]))
    have h2 := h p (by simp)
    have h3 := fill8_ge (4 + p.2.length)
    rw [pieces, List.length_append, pieceB_length, List.length_cons]; omega
/-- What holds in the loop: the bytes so far. -/
structure PutAt (w0 : World) (ps : List Piece) (k : Nat) (b : Value) (w : World) : Prop where
  own : w.ownsRow w0.heap.size 5 1 b (pieces (ps.take k)).length ((pieces (ps.take k)).map (Value.int .u8))
  small : ∀ p ∈ ps.take k, p.2.length ≤ 2048
  below : Below w0.heap.size w0 w
/-- What Put hands back. -/
def PutRes (w : World) (ps : List Piece) (e : Ending) (w' : World) : Prop :=
  (putE ps ≠ 0 ∧ e = .returned (.tuple #[.slice none 0 0, .int .i64 (putE ps)]) ∧ Below w.heap.size w w') ∨
  ∃ A, putE ps = 0 ∧ e = .returned (.tuple #[.slice A (pieces ps).length (pieces ps).length, .int .i64 0]) ∧ Rd w' .u8 A (pieces ps).length (pieces ps) ∧ (A = none → (pieces ps).length = 0) ∧ (0 < (pieces ps).length → ∃ g, A = some ⟨g, 0, none⟩ ∧ w.heap.size ≤ g) ∧ Below w.heap.size w w'
/-- .. and in memory of its own. -/
def PutOwn (w : World) (ps : List Piece) (e : Ending) (w' : World) : Prop :=
  (putE ps ≠ 0 ∧ e = .returned (.tuple #[.slice none 0 0, .int .i64 (putE ps)]) ∧ Below w.heap.size w w') ∨
  ∃ A, putE ps = 0 ∧ e = .returned (.tuple #[.slice A (pieces ps).length (pieces ps).length, .int .i64 0]) ∧ Rd w' .u8 A (pieces ps).length (pieces ps) ∧ (A = none → (pieces ps).length = 0) ∧ (0 < (pieces ps).length → ∃ g, A = some ⟨g, 0, none⟩ ∧ w.heap.size ≤ g) ∧ Below w.heap.size w w' ∧
    ∃ c, (pieces ps).length ≤ c ∧ w'.ownsRow w.heap.size 5 1 (.slice A (pieces ps).length c) (pieces ps).length ((pieces ps).map (Value.int .u8))
theorem PutOwn.res {w : World} {ps : List Piece} {e : Ending} {w' : World} (h : PutOwn w ps e w') : PutRes w ps e w' := by
  rcases h with h | ⟨A, h1, h2, h3, h4, h5, h6, _⟩
  · exact .inl h
  · exact .inr ⟨A, h1, h2, h3, h4, h5, h6⟩
theorem ps_ok {w : World} {A : Option Addr} {n : Nat} {ps : List Piece} (h : Ps w A n ps) : ∀ p ∈ ps, okPiece p := fun p hp => by
  obtain ⟨j, hj, e⟩ := List.getElem_of_mem hp
  obtain ⟨b, off, _, _, hc⟩ := h.row (by have := h.len; omega)
  obtain ⟨t, body, B, m, c, h1, h2, _, _, h5, _, _⟩ := hc j (by have := h.len; omega)
  have : p = (t, body) := by rw [List.getElem?_eq_getElem hj] at h1; injection h1 with h1; rw [← e, h1]
  subst this
  exact ⟨h2.1, h2.2, fun x hx => wf_bounds_u8 (h5.wf x hx)⟩

theorem put2_any (A0 : Option Addr) (n0 c0 : Nat) (bs : List Int) (n : Int) (w : World) (r0 : Rd w .u8 A0 n0 bs) (l0 : n0 ≤ c0) (h0 : 0 ≤ n) (h1 : n ≤ 18446744073709551615) :
    Calls Try.prog 33 #[.slice A0 n0 c0, .int .u64 n, .int .i64 2] w fun e w' => ∃ g, w.heap.size ≤ g ∧ e = .returned (.slice (some ⟨g, 0, none⟩) (n0 + 2) (n0 + 2)) ∧ Blk w' g 5 ((bs ++ be n 2).map (Value.int .u8)) ∧ Below w.heap.size w w' := by
  refine (put_any A0 n0 c0 bs n 2 w r0 l0 h0 h1).mono ?_
  rintro e w' ⟨g, hg, rfl, hk, hB⟩
  have e2 : putMany 2 = 2 := by decide
  rw [e2] at hk ⊢
  have hl : (bs ++ be n 2).length = n0 + 2 := by rw [List.length_append, be_length, r0.len]
  exact ⟨g, hg, by rw [hl], hk, hB⟩
theorem drew_below (w : World) : Below w.heap.size w w.drew := ⟨rfl, rfl, rfl, Nat.le_refl _, fun _ _ => rfl⟩

set_option maxRecDepth 100000 in
set_option maxHeartbeats 4000000 in
theorem paput_own (A0 : Option Addr) (n0 c0 : Nat) (ps : List Piece) (w : World) (h : Ps w A0 n0 ps) :
    Calls Try.prog 51 #[.slice A0 n0 c0] w (PutOwn w ps) := by
  have hbig := h.big
  have hl := h.len
  have hok := ps_ok h
  have hbytes : ∀ k, ∀ x ∈ pieces (ps.take k), 0 ≤ x ∧ x ≤ 255 := fun k => pieces_byte _ (fun p hp => hok p (List.mem_of_mem_take hp))
  by_cases hr : rises 0 ps = false
  · have hE : putE ps = 1 := by unfold putE; rw [if_pos hr]
    have hmay := pamay_any A0 n0 c0 ps w h
    rw [hr] at hmay
    go_enter Try.func51, Try.ntmps51
    go_wp2_with fail
    refine hmay.mono ?_; rintro e w1 ⟨rfl, hB1⟩
    go_wp2_with fail
    go_ret2
    exact .inl ⟨by rw [hE]; omega, by rw [hE]; rfl, hB1⟩
  · have hr' : rises 0 ps = true := by simpa using hr
    have hmay := pamay_any A0 n0 c0 ps w h
    rw [hr'] at hmay
    by_cases h16 : 16 < n0
    · have hE : putE ps = 3 := by unfold putE; rw [if_neg hr, if_pos (by omega)]
      have HE := Lib.hid hE
      have h16' : (16 : Int) < (n0 : Int) := by omega
      clear hE
      go_enter Try.func51, Try.ntmps51
      go_wp2_with fail
      refine hmay.mono ?_; rintro e w1 ⟨rfl, hB1⟩
      go_wp2_with fail
      go_ret2
      exact .inl ⟨by rw [HE.out]; omega, by rw [HE.out]; rfl, hB1⟩
    · have hE : putE ps = if ps.any (fun p => decide (2048 < p.2.length)) then 3 else if 2048 < (pieces ps).length then 3 else 0 := by unfold putE; rw [if_neg hr, if_neg (by omega)]
      have HE := Lib.hid hE
      have HBY := Lib.hid hbytes
      have HOK := Lib.hid hok
      have HPS := Lib.hid h
      have h16' : ¬ ((16 : Int) < (n0 : Int)) := by omega
      have h16n : n0 ≤ 16 := by omega
      clear hE hbytes hr hr' hok h h16
      go_enter Try.func51, Try.ntmps51
      go_wp2_with fail
      refine hmay.mono ?_; rintro e w1 ⟨rfl, hB1⟩
      go_wp2_with fail
      have HST : Hid (PutAt w ps 0 (.slice none 0 0) w1) := Lib.hid ⟨by simpa [pieces] using own_nil w1 w.heap.size 5 1, by simp, hB1⟩
      clear hB1
      go_loopw [4, 17] (fun b i wr => ∃ k : Nat, k ≤ n0 ∧ i = .int .i64 k ∧ PutAt w ps k b wr) (fun _ i _ => n0 - (intOf i).toNat)
      case atStart => exact ⟨0, Nat.zero_le _, rfl, HST.out⟩
      case round =>
        obtain ⟨k, hk, rfl, hst⟩ := hrel
        have hle := pieces_le _ hst.small
        rw [List.length_take] at hle
        obtain ⟨A, c, rfl, hrd, hAc, hAn, hAg⟩ := own_rd hst.own (HBY.out k) (by omega)
        by_cases hlt : k < n0
        · obtain ⟨b, off, rfl, hb, hc⟩ := (HPS.out.below hst.below).row (by omega)
          obtain ⟨t, body, B, m, cc, h1, h2, h3, h4, h5, h6, h7⟩ := hc k hlt
          have i0 : (0 : Int) ≤ (k : Int) := by omega
          have i1 : (k : Int) < (n0 : Int) := by omega
          have hml := h5.len
          have hmem : (t, body) ∈ ps := List.mem_of_getElem? h1
          have htk := pieces_take ps k (t, body) h1
          have HC := Lib.hid hc
          have HH := Lib.hid hst
          have H1 := Lib.hid h1
          have H5 := Lib.hid h5
          have H7 := Lib.hid h7
          have HTK := Lib.hid htk
          have HMEM := Lib.hid hmem
          have HRD := Lib.hid hrd
          have HAN := Lib.hid hAn
          have HAN7 := H7
          have HLC := Lib.hid hAc
          have HML := Lib.hid hml
          clear hc hst h1 h5 h7 htk hmem hrd hAn hAg hml
          by_cases hm : 2048 < m
          · have hm' : (2048 : Int) < (m : Int) := by omega
            go_wp2_with fail
            go_ret2
            have hE3 : putE ps = 3 := by rw [HE.out, if_pos]; rw [List.any_eq_true]; exact ⟨_, HMEM.out, by simp [HML.out]; omega⟩
            exact .inl ⟨by rw [hE3]; omega, by rw [hE3]; rfl, HH.out.below.alloc HH.out.below.size _⟩
          · have hm' : ¬ ((2048 : Int) < (m : Int)) := by omega
            have hmod := pieces_mod (ps.take k)
            have hnew : ∀ W : World, W.ownsRow w.heap.size 5 1 (.slice A (pieces (ps.take k)).length c) (pieces (ps.take k)).length ((pieces (ps.take k)).map (Value.int .u8)) → True := fun _ _ => trivial
            have hB1 : Below w.heap.size w (wr.alloc (.cells #[.int .u16 t, .slice B m cc] 69)) := HH.out.below.alloc HH.out.below.size _
            have hbox : Blk (wr.alloc (.cells #[.int .u16 t, .slice B m cc] 69)) wr.heap.size 69 [.int .u16 t, .slice B m cc] := Blk.new wr 69 _
            have hrd1 : Rd (wr.alloc (.cells #[.int .u16 t, .slice B m cc] 69)) .u8 A (pieces (ps.take k)).length (pieces (ps.take k)) := HRD.out.below (new_below _ _)
            have hrd5 : Rd (wr.alloc (.cells #[.int .u16 t, .slice B m cc] 69)) .u8 B m body := H5.out.below (new_below _ _)
            have hbx := HBY.out k
            have hbb : ∀ x ∈ body, 0 ≤ x ∧ x ≤ 255 := fun x hx => wf_bounds_u8 (hrd5.wf x hx)
            have hXl : (pieces (ps.take k)).length = (pieces (ps.take k)).length := rfl
            have hfin : ∀ (b' : Value) (w' : World), w'.ownsRow w.heap.size 5 1 b' ((pieces (ps.take k)).length + 2 + 2 + m + (fill8 ((pieces (ps.take k)).length + 2 + 2 + m) - ((pieces (ps.take k)).length + 2 + 2 + m))) ((pieces (ps.take k) ++ be t 2 ++ be m 2 ++ body ++ List.replicate (fill8 ((pieces (ps.take k)).length + 2 + 2 + m) - ((pieces (ps.take k)).length + 2 + 2 + m)) 0).map (Value.int .u8)) → Below w.heap.size w w' → PutAt w ps (k + 1) b' w' := fun b' w' ho hB => by
              have hF : fill8 ((pieces (ps.take k)).length + 2 + 2 + m) - ((pieces (ps.take k)).length + 2 + 2 + m) = fill8 (4 + body.length) - (4 + body.length) := by
                rw [HML.out]; unfold fill8; omega
              rw [hF] at ho
              have hpc : pieces (ps.take k) ++ be t 2 ++ be m 2 ++ body ++ List.replicate (fill8 (4 + body.length) - (4 + body.length)) 0 = pieces (ps.take (k + 1)) := by
                rw [HTK.out, pieceB]; simp only [List.append_assoc, HML.out]
              have hlen : (pieces (ps.take k)).length + 2 + 2 + m + (fill8 (4 + body.length) - (4 + body.length)) = (pieces (ps.take (k + 1))).length := by
                rw [← hpc]; simp only [List.length_append, be_length, List.length_replicate, HML.out]
              rw [hpc, hlen] at ho
              refine ⟨ho, fun p hp => ?_, hB⟩
              have e1 : ps.take (k + 1) = ps.take k ++ [(t, body)] := by
                have hk1 : k < ps.length := by omega
                rw [List.take_succ_eq_append_getElem hk1]
                congr 2
                have := H1.out
                rw [List.getElem?_eq_getElem hk1] at this
                injection this
              rw [e1] at hp
              rcases List.mem_append.1 hp with hp | hp
              · exact HH.out.small p hp
              · simp at hp; subst hp; simp [HML.out]; omega
            have HFIN := Lib.hid hfin
            have HBX := Lib.hid hbx
            have HBB := Lib.hid hbb
            have HB1 := Lib.hid hB1
            have HBOX := Lib.hid hbox
            have HRD1 := Lib.hid hrd1
            have HRD5 := Lib.hid hrd5
            have hXs : (pieces (ps.take k)).length ≤ 32960 := by omega
            clear hfin hbx hbb hB1 hbox hrd1 hrd5 hnew hXl hle hAc hmod HTK H1 HMEM HRD H5 HH hb
            obtain ⟨X, hX⟩ : ∃ X, pieces (ps.take k) = X := ⟨_, rfl⟩
            rw [hX] at HFIN HBX HRD1 hXs HLC ⊢
            obtain ⟨L, hL⟩ : ∃ L, X.length = L := ⟨_, rfl⟩
            rw [hL] at HFIN HRD1 hXs HLC ⊢
            clear hX
            have HXL := Lib.hid hL
            clear hL
            obtain ⟨N, hN⟩ : ∃ N, L + 2 + 2 + m = N := ⟨_, rfl⟩
            rw [hN] at HFIN
            obtain ⟨K, hK⟩ : ∃ K, fill8 N - N = K := ⟨_, rfl⟩
            rw [hK] at HFIN
            have hwk : IntKind.i64.wrap ((fill8 N : Int) - (N : Int)) = (K : Int) := by
              have := fill8_ge N
              rw [IntWalk.i64_in _ (by omega)]; omega
            have hK8 : K ≤ 8 := by have := fill8_ge N; omega
            have hN0 : 0 < N := by omega
            have hNb : N ≤ 40000 := by omega
            have HN := Lib.hid hN
            obtain ⟨F, hF⟩ : ∃ F, fill8 N = F := ⟨_, rfl⟩
            rw [hF] at hwk
            have HF := Lib.hid hF
            clear hK hF hN
            go_wp2_with fail
            obtain ⟨P, hP⟩ : ∃ P, wr.heap.size = P := ⟨_, rfl⟩
            rw [hP] at HBOX ⊢
            generalize wr.alloc (.cells #[.int .u16 t, .slice B m cc] 69) = W1 at *
            clear hP
            have HB1D : Hid (Below w.heap.size w W1.drew) := Lib.hid (HB1.out.trans ((drew_below W1).mono HB1.out.size))
            have HRD1D := Lib.hid (HRD1.out.below (drew_below W1))
            have HRD5D := Lib.hid (HRD5.out.below (drew_below W1))
            have HBOXD : Hid (Blk W1.drew P 69 [.int .u16 t, .slice B m cc]) := Lib.hid HBOX.out
            have hc1 := HBOX.out.cell 0
            have hc2 := HBOX.out.cell 1
            simp only [List.getElem?_cons_zero, List.getElem?_cons_succ] at hc1 hc2
            clear HB1 HRD1 HRD5 HBOX
            have hLc : L ≤ c := HLC.out
            have hwt : IntKind.u64.wrap t = t := IntWalk.u64_in _ (by omega)
            have hwm : IntKind.u64.wrap (m : Int) = (m : Int) := IntWalk.u64_in _ (by omega)
            go_region_held3 (fun w' => w'.cell? ⟨P, 0, none⟩ = some (.int .u16 t) ∧ w'.cell? ⟨P, 1, none⟩ = some (.slice B m cc))
              (((try dsimp only); refine ⟨?_, ?_⟩ <;> (first | assumption | (go_keep; done))))
              (first
                | (refine step_append_bytes w.heap.size rfl _ _ rfl (.slice (some ⟨g4, 0, none⟩) (L + 2 + 2) (L + 2 + 2)) (L + 2 + 2) (X ++ be t 2 ++ be m 2) (by simp [Act.eval, Act.put]) B m cc body (by simp [Act.eval, Act.put]) HRD54.out HAN7.out (own_blk HK4.out HG4.out (by simp [HXL.out, be_length]) (by omega)) HB4.out.size (by omega) ?_
                   intro v7 w7 ho7 hg7 hat7
                   rw [HN.out] at ho7
                   obtain ⟨g7, c7, rfl, hc7, hgg7, hlt7⟩ := own_some ho7.out hN0
                   have HB7 := Lib.hid (grown_below HB4.out hg7 (own_blk HK4.out HG4.out (n := L + 2 + 2) (by simp [HXL.out, be_length]) (by omega)) (Nat.le_refl _))
                   have l1 := hg7.cell j1 (by simp [Value.ownBlock]; have := HPG.out; omega)
                   have l2 := hg7.cell j2 (by simp [Value.ownBlock]; have := HPG.out; omega)
                   clear hg7 hat7)
                | (go_at_call 33
                   refine (put2_any (some ⟨g3, 0, none⟩) (L + 2) (L + 2) (X ++ be t 2) m w3 (rd_of_blk HK3.out (by intro x hx; rcases List.mem_append.1 hx with hx | hx; exact HBX.out x hx; exact be_byte _ _ x hx) (by simp [HXL.out, be_length]) (by omega)) (Nat.le_refl _) (by omega) (by omega)).mono ?_
                   rintro e w4 ⟨g4, hg4, rfl, hk4, hB4⟩
                   have HB4 := Lib.hid (HB3.out.trans (hB4.mono HB3.out.size))
                   have HK4 := Lib.hid hk4
                   have HG4 := Lib.hid (Nat.le_trans HB3.out.size hg4)
                   have HPG := Lib.hid (Nat.lt_of_lt_of_le HBOX3.out.lt hg4)
                   have HBOX4 := Lib.hid (HBOX3.out.below hB4 HBOX3.out.lt)
                   have HRD54 := Lib.hid (HRD53.out.below hB4)
                   have j1 := HBOX4.out.cell 0
                   have j2 := HBOX4.out.cell 1
                   simp only [List.getElem?_cons_zero, List.getElem?_cons_succ] at j1 j2
                   clear hk4 hB4 hg4)
                | (go_at_call 33
                   refine (put2_any A L c X t W1.drew HRD1D.out hLc h2.1 (by omega)).mono ?_
                   rintro e w3 ⟨g3, hg3, rfl, hk3, hB3⟩
                   have HB3 := Lib.hid (HB1D.out.trans (hB3.mono HB1D.out.size))
                   have HK3 := Lib.hid hk3
                   have HG3 := Lib.hid (Nat.le_trans HB1D.out.size hg3)
                   have HBOX3 := Lib.hid (HBOXD.out.below hB3 HBOXD.out.lt)
                   have HRD53 := Lib.hid (HRD5D.out.below hB3)
                   have k1 := HBOX3.out.cell 0
                   have k2 := HBOX3.out.cell 1
                   simp only [List.getElem?_cons_zero, List.getElem?_cons_succ] at k1 k2
                   clear hk3 hB3 hg3))
            go_wp2_with fail
            have hfl := filled_any N w7 (by omega)
            rw [HF.out] at hfl
            refine hfl.mono ?_; rintro e w8 ⟨rfl, rfl⟩
            obtain ⟨v9, w9, hrun9, ho9, hg9, hat9⟩ := append_zeros_own w.heap.size 49 g7 N c7 K _ ho7.out HB7.out.size (by omega) (by omega)
            have HO9 := Lib.hid ho9
            have HB9 := Lib.hid (grown_below (v := .slice (some ⟨g7, 0, none⟩) N c7) HB7.out hg9 ho7.out (Nat.le_refl _))
            clear ho9 hg9 hat9 hfl
            go_wp2_with (at_builtin; refine Lib.wpList_append_run _ rfl _ _ _ _ rfl _ _ rfl rfl _ _ hrun9 ?_)
            go_roundw
            case rel => exact ⟨k + 1, by omega, by go_num, HFIN.out _ _ HO9.out HB9.out⟩
            case measure => simp [intOf]; omega
        · obtain rfl : k = n0 := by omega
          have hp : ps.take k = ps := by rw [List.take_of_length_le (by omega)]
          have hsm := hst.small
          have hbx := HBY.out k
          have hown := hst.own
          rw [hp] at hown hrd hAc hAg hle hsm hbx ⊢
          have hany : ps.any (fun p => decide (2048 < p.2.length)) = false := by
            rw [List.any_eq_false]
            intro p hp
            have := hsm p hp
            simp; omega
          have HE2 : Hid (putE ps = if 2048 < (pieces ps).length then 3 else 0) := Lib.hid (by rw [HE.out, if_neg (by rw [hany]; simp)])
          have HB := Lib.hid hst.below
          have HRD := Lib.hid hrd
          have HAG := Lib.hid hAg
          have HAN := Lib.hid hAn
          have HOWN := Lib.hid hown
          clear hst hsm hbx hany hrd hAg hle hown
          obtain ⟨L, hL⟩ : ∃ L, (pieces ps).length = L := ⟨_, rfl⟩
          have HL := Lib.hid hL
          rw [hL] at HE2 HRD HAG hAc ⊢
          clear hL
          by_cases hbg : 2048 < L
          · have hbg' : (2048 : Int) < (L : Int) := by omega
            have hE3 : Hid (putE ps = 3) := Lib.hid (by rw [HE2.out, if_pos hbg])
            go_wp2_with fail
            go_ret2
            exact .inl ⟨by rw [hE3.out]; omega, by rw [hE3.out]; rfl, HB.out⟩
          · have hbg' : ¬ ((2048 : Int) < (L : Int)) := by omega
            have hE3 : Hid (putE ps = 0) := Lib.hid (by rw [HE2.out, if_neg hbg])
            have hclip : Calls Try.prog 32 #[.slice A L c] wr fun e w' => e = .returned (.slice A L L) ∧ wr = w' := clip_all A L c wr hAc
            go_wp2_with fail
            refine hclip.mono ?_; rintro e w2 ⟨rfl, rfl⟩
            go_wp2_with fail
            go_ret2
            refine .inr ⟨A, hE3.out, ?_, ?_, ?_, ?_, HB.out, ?_⟩
            · rw [HL.out]; rfl
            · rw [HL.out]; exact HRD.out
            · intro e; rw [HL.out]; have := HAN.out e; omega
            · rw [HL.out]; exact HAG.out
            · have ho := HOWN.out
              rw [HL.out] at ho ⊢
              exact ⟨c, hAc, ho⟩
theorem paput_any (A0 : Option Addr) (n0 c0 : Nat) (ps : List Piece) (w : World) (h : Ps w A0 n0 ps) :
    Calls Try.prog 51 #[.slice A0 n0 c0] w (PutRes w ps) := (paput_own A0 n0 c0 ps w h).mono fun _ _ h => h.res
end Go.Proofs.Ytadpgodmkodgdaa
