/- The walk over params.PutSpots, of any spots; Arrays of whole numbers, compared. -/
import Derived.Test.YtgecfcdafbedaaaGreatZRParamsBodies3
import Derived.Test.YtgecfcdafbedaaaGreatZRParamsBodies11
import Derived.Test.YtgecfcdafbedaaaGreatZRParamsBodies12
import Derived.Test.YtgecfcdafbedaaaGreatZRParamsBodies13
import Derived.Test.YtgecfcdafbedaaaGreatZRParamsBodies0
import Derived.Stop.BytesEq
namespace Go.Proofs.YtgecfcdafbedaaaGreat
open Go.RowKit Go.Shelf
set_option linter.unusedSimpArgs false
set_option linter.unusedVariables false

def atL (xs : List Int) : Nat → Int := fun j => xs[j]?.getD 0
/-- What PutSpots answers. -/
def SpPut (w : World) (n : Nat) (xs : List Int) (e : Ending) (w' : World) : Prop :=
  ((SpOk n (atL xs) ∧ ∃ g, w.heap.size ≤ g ∧ e = .returned (.tuple #[.slice (some ⟨g, 0, none⟩) (1 + 4 * n) (1 + 4 * n), .int .i64 0]) ∧ Blk w' g 5 ((spPre n (atL xs) n).map (Value.int .u8)))
    ∨ (¬ SpOk n (atL xs) ∧ e = .returned (.tuple #[.slice none 0 0, .int .i64 1]))) ∧ Below w.heap.size w w'
theorem spPre_byte (n : Nat) (f : Nat → Int) (hn : n ≤ 255) : ∀ k, ∀ x ∈ spPre n f k, 0 ≤ x ∧ x ≤ 255
  | 0 => fun x hx => by simp [spPre] at hx; omega
  | k + 1 => fun x hx => by
    rw [spPre, List.mem_append] at hx
    rcases hx with hx | hx
    · exact spPre_byte n f hn k x hx
    · exact be_byte 4 _ x hx
theorem wf_u32 {x : Int} (h : (Lit.int .u32 x).wf = true) : 0 ≤ x ∧ x ≤ 4294967295 := by
  simp [Lit.wf, IntKind.min, IntKind.max, IntKind.wrap, IntKind.bits, IntKind.signed] at h
  omega
/-- A box that holds the list, ahead of the sort. -/
theorem sorted_box (A : Option Addr) (n c : Nat) (xs : List Int) (w : World) (r : Rd w .u32 A n xs) (hn : n ≤ 35184372087808) :
    Calls Tryz.prog 60 #[.func (.func 79) #[] #[.pointer (some ⟨w.heap.size, 0, none⟩)]] (w.alloc (.cells #[.slice A n c] 24)) fun e w' => ∃ v, e = .returned v ∧ ((n = 0 ∧ ∃ A' c', v = .slice A' 0 c') ∨ (∃ g c' f', v = .slice (some ⟨g, 0, none⟩) n c' ∧ n ≤ c' ∧ w.heap.size ≤ g ∧ RowF w' g n f' ∧ Shuf n (atL xs) f' ∧ (n ≤ 12 → SortF f' 0 n))) ∧ Below w.heap.size w w' := by
  have hB : Below w.heap.size w (w.alloc (.cells #[.slice A n c] 24)) := new_below w _
  have hl := r.len
  subst hl
  by_cases h0 : 0 < xs.length
  · obtain ⟨b, off, rfl, hb, hc⟩ := r.row h0
    refine (sorted_any w.heap.size w.heap.size b off c (some ⟨b, off, none⟩) xs (fun _ => rfl) hn (w.alloc _) (by simp) (by simp) (fun _ => hb) (by simp) (fun j hj => (hB.cell (p := ⟨b, off + j, none⟩) hb).trans (hc j hj))).mono ?_
    rintro e w' ⟨v, he, h, hB2⟩
    exact ⟨v, he, h, hB.trans hB2⟩
  · refine (sorted_any w.heap.size w.heap.size 0 0 c A xs (fun h => absurd h h0) hn (w.alloc _) (by simp) (by simp) (fun h => absurd h h0) (by simp) (fun j hj => by omega)).mono ?_
    rintro e w' ⟨v, he, h, hB2⟩
    exact ⟨v, he, h, hB.trans hB2⟩
set_option maxRecDepth 100000 in
set_option maxHeartbeats 8000000 in
theorem putspots_any (A : Option Addr) (n c : Nat) (xs : List Int) (w : World) (r : Rd w .u32 A n xs) (l : n ≤ c) (hn : n ≤ 35184372087808) :
    Calls Tryz.prog 22 #[.slice A n c] w (SpPut w n xs) := by
  have HS := Lib.hid (sorted_box A n c xs w r hn)
  have HR := Lib.hid r
  have hpos : ∀ j, j < n → 0 ≤ atL xs j := fun j hj => (wf_u32 (r.mem hj)).1
  have HPOS := Lib.hid hpos
  clear r hpos
  go_enter Tryz.func22, Tryz.ntmps22
  go_wp2_with (first | (go_at_call 61; refine (val_any _ _ _ _).mono ?_; rintro e w' ⟨rfl, rfl⟩))
  refine HS.out.mono ?_; rintro e w1 ⟨v, rfl, hv, hB⟩
  have HB := Lib.hid hB
  clear hB HS
  by_cases hn0 : n = 0
  · have HNO : Hid (¬ SpOk n (atL xs)) := Lib.hid (fun h => by have := h.1; omega)
    have hv2 : ∃ A' c', v = .slice A' 0 c' := by
      rcases hv with ⟨_, h⟩ | ⟨g, c', f', h, _⟩
      · exact h
      · exact ⟨_, c', by rw [h, hn0]⟩
    obtain ⟨A', c', rfl⟩ := hv2
    have f1 : ((n : Int) < 1) = True := eq_true (by omega)
    clear hv hn0
    go_wp2_with fail
    go_ret2
    exact ⟨.inr ⟨HNO.out, rfl⟩, HB.out⟩
  · obtain ⟨g, c', f', rfl, hcc, hg, hrow, hsh, hso⟩ : ∃ g c' f', v = .slice (some ⟨g, 0, none⟩) n c' ∧ n ≤ c' ∧ w.heap.size ≤ g ∧ RowF w1 g n f' ∧ Shuf n (atL xs) f' ∧ (n ≤ 12 → SortF f' 0 n) := by
      rcases hv with ⟨h, _⟩ | h
      · exact absurd h hn0
      · exact h
    have f1 : ((n : Int) < 1) = False := eq_false (by omega)
    by_cases hn4 : 4 < n
    · have HNO : Hid (¬ SpOk n (atL xs)) := Lib.hid (fun h => by have := h.2.1; omega)
      have f2 : ((4 : Int) < (n : Int)) = True := eq_true (by omega)
      clear hv hn0 hn4 hcc hg hrow hsh hso
      go_wp2_with fail
      go_ret2
      exact ⟨.inr ⟨HNO.out, rfl⟩, HB.out⟩
    · have f2 : ((4 : Int) < (n : Int)) = False := eq_false (by omega)
      have f3 : (0 : Int) < (n : Int) := by omega
      have f4 : 0 < n := by omega
      have c0 := hrow.cell (j := 0) f4
      obtain ⟨x, hx⟩ : ∃ x, f' 0 = x := ⟨_, rfl⟩
      rw [hx] at c0
      have hz := spok_zero hsh (hso (by omega)) f4 HPOS.out
      rw [hx] at hz
      have HZ := Lib.hid hz
      have HG := Lib.hid hg
      have HCC := Lib.hid hcc
      have HROW := Lib.hid hrow
      have HSH := Lib.hid hsh
      have HSO := Lib.hid (hso (by omega))
      have HN := Lib.hid (show 1 ≤ n ∧ n ≤ 4 by omega)
      clear hv hn0 hn4 hcc hg hrow hsh hso hz hx
      by_cases hx0 : x = 0
      · have HNO : Hid (¬ SpOk n (atL xs)) := Lib.hid (fun h => by
          obtain ⟨j, hj, h0⟩ := HZ.out.1 hx0
          exact h.2.2.1 j hj h0)
        have f5 : (x == 0) = true := beq_iff_eq.2 hx0
        clear hx0
        go_wp2_with fail
        go_ret2
        exact ⟨.inr ⟨HNO.out, rfl⟩, HB.out⟩
      · have f5 : (x == 0) = false := beq_eq_false_iff_ne.2 hx0
        have HX := Lib.hid hx0
        have HCM := Lib.hid (compF_any g n c' f' w1 HROW.out HCC.out (by omega))
        clear hx0
        go_wp2_with fail
        refine HCM.out.mono ?_; rintro e w2 ⟨m, rfl, hm, hk⟩
        have HB1 := HB
        clear HB
        have HB : Hid (Below w.heap.size w w2) := Lib.hid (below_keeps HB1.out hk (Nat.le_refl _) (fun i hi => by rw [hi]; exact HG.out))
        clear hk HCM HB1
        rcases hm with ⟨rfl, hu⟩ | ⟨hlt, hlk⟩
        · have HOK : Hid (SpOk m (atL xs)) := Lib.hid ⟨HN.out.1, HN.out.2, fun j hj h0 => HX.out (HZ.out.2 ⟨j, hj, h0⟩), spok_un HSH.out HSO.out hu⟩
          have f6 : ((m : Int) < (m : Int)) = False := eq_false (by omega)
          obtain ⟨b, off, rfl, hb, hc⟩ := HR.out.row f4
          have HBL := Lib.hid hb
          have HCL := Lib.hid hc
          have hw8 : IntKind.u8.wrap (m : Int) = (m : Int) := IntWalk.u8_in _ (by have := HN.out; omega)
          have hB3 : Below w.heap.size w (w2.alloc (.cells #[.int .u8 (m : Int)] 5)) := HB.out.alloc HB.out.size _
          have hk3 : Blk (w2.alloc (.cells #[.int .u8 (m : Int)] 5)) w2.heap.size 5 ((spPre m (atL xs) 0).map (Value.int .u8)) := Blk.new w2 5 [.int .u8 (m : Int)]
          have HB3 := Lib.hid hB3
          have HK3 := Lib.hid hk3
          have HG3 := Lib.hid HB.out.size
          clear hu hb hc hB3 hk3 c0
          go_wp2_with fail
          go_loopg [5, 7, 39] m (fun gas s5 s7 s39 wr => ∃ j gq : Nat, m - j = gas ∧ j ≤ m ∧ s39 = .int .i64 (j : Int) ∧ s5 = .slice (some ⟨gq, 0, none⟩) (1 + 4 * j) (1 + 4 * j) ∧ w.heap.size ≤ gq ∧ Blk wr gq 5 ((spPre m (atL xs) j).map (Value.int .u8)) ∧ Below w.heap.size w wr)
          case atStart => exact ⟨0, w2.heap.size, rfl, Nat.zero_le _, rfl, rfl, HG3.out, HK3.out, HB3.out⟩
          case round =>
            obtain ⟨j, gq, rfl, hj, rfl, rfl, hgq, hk, hB⟩ := hrel
            have HGQ := Lib.hid hgq
            have HK := Lib.hid hk
            have HBR := Lib.hid hB
            clear hgq hk hB
            by_cases hlt : (j : Int) < (m : Int)
            · have hjm : j < m := by omega
              have hcx : wr.cell? ⟨b, off + j, none⟩ = some (.int .u32 (atL xs j)) := (HBR.out.cell (p := ⟨b, off + j, none⟩) HBL.out).trans (HCL.out j hjm)
              obtain ⟨v0, v1⟩ := wf_u32 (HR.out.mem hjm)
              have v0' : 0 ≤ atL xs j := v0
              have v1' : atL xs j ≤ 4294967295 := v1
              obtain ⟨v, hv⟩ : ∃ v, atL xs j = v := ⟨_, rfl⟩
              have hwv : IntKind.u64.wrap v = v := IntWalk.u64_in _ (by omega)
              have hwj : IntKind.i64.wrap ((j : Int) + 1) = ((j + 1 : Nat) : Int) := by rw [IntWalk.i64_in _ (by omega)]; omega
              have hr : Rd wr .u8 (some ⟨gq, 0, none⟩) (1 + 4 * j) (spPre m (atL xs) j) := rd_of_blk HK.out (spPre_byte m _ (by have := HN.out; omega) j) (spPre_length ..) (by have := HN.out; omega)
              have hput := put_any (some ⟨gq, 0, none⟩) (1 + 4 * j) (1 + 4 * j) _ v 4 wr hr (Nat.le_refl _) (by omega) (by omega)
              have e4 : putMany 4 = 4 := by decide
              rw [e4] at hput
              have HPUT := Lib.hid hput
              have HV := Lib.hid hv
              have HJ := Lib.hid (show j + 1 ≤ m ∧ m - (j + 1) < m - j by omega)
              have j0 : (0 : Int) ≤ (j : Int) := by omega
              rw [hv] at hcx
              clear hr hput e4 hv v0 v1 v0' v1' hj hjm
              go_wp2_with fail
              refine HPUT.out.mono ?_; rintro e w4 ⟨g4, hg4, rfl, hk4, hB4⟩
              have e5 : spPre m (atL xs) j ++ be v 4 = spPre m (atL xs) (j + 1) := by rw [spPre, HV.out]
              rw [e5] at hk4
              rw [e5, spPre_length]
              have HK4 := Lib.hid hk4
              have HB4 := Lib.hid (HBR.out.trans (hB4.mono HBR.out.size))
              have HG4 := Lib.hid (Nat.le_trans HBR.out.size hg4)
              clear hk4 hB4 hg4 e5 hcx
              go_wp2_with fail
              go_roundg (m - (j + 1))
              case rel => exact ⟨j + 1, g4, rfl, HJ.out.1, (by go_num), rfl, HG4.out, HK4.out, HB4.out⟩
              case measure => exact HJ.out.2
            · have hltf : ((j : Int) < (m : Int)) = False := eq_false hlt
              obtain rfl : j = m := by omega
              clear hlt hj
              go_wp2_with fail
              refine (clip_all (some ⟨gq, 0, none⟩) (1 + 4 * j) (1 + 4 * j) wr (Nat.le_refl _)).mono ?_; rintro e w7 ⟨rfl, rfl⟩
              go_wp2_with fail
              go_ret2
              exact ⟨.inl ⟨HOK.out, gq, HGQ.out, rfl, HK.out⟩, HBR.out⟩
        · have HNO : Hid (¬ SpOk n (atL xs)) := Lib.hid (fun h => spok_like HSH.out hlk h.2.2.2)
          have f6 : ((m : Int) < (n : Int)) = True := eq_true (by omega)
          clear hlt hlk
          go_wp2_with fail
          go_ret2
          exact ⟨.inr ⟨HNO.out, rfl⟩, HB.out⟩
end Go.Proofs.YtgecfcdafbedaaaGreat

namespace Go.Proofs.YtgecfcdafbedaaaGreat
open Go.RowKit
set_option linter.unusedSimpArgs false
set_option linter.unusedVariables false
theorem all_range_int : ∀ (xs ys : List Int), xs.length = ys.length → (List.range xs.length).all (fun i => xs.getD i 0 == ys.getD i 0) = (xs == ys)
  | [], [], _ => rfl
  | x :: xs, y :: ys, h => by
    have ih := all_range_int xs ys (by simpa using h)
    simp only [List.length_cons, List.range_succ_eq_map, List.all_cons, List.all_map, List.getD_cons_zero]
    have : ((List.range xs.length).all ((fun i => (x :: xs).getD i 0 == (y :: ys).getD i 0) ∘ Nat.succ)) = (List.range xs.length).all (fun i => xs.getD i 0 == ys.getD i 0) := by
      congr 1
    rw [this, ih]
    simp [List.cons_beq_cons]
  | [], _ :: _, h => by simp at h
  | _ :: _, [], h => by simp at h
section
variable {P : Program} (w : World)
theorem run_equalIn_ints (d : Nat) (t e : TypeId) (n : Nat) (k : IntKind) (ht : P.underlying t = some (.array n e)) (he : P.underlying e = some (.int k)) (hsz : ∀ w, (sizeOf e).run P w = .ok 1 w)
    (xs ys : List Int) (hx : xs.length = n) (hy : ys.length = n) :
    (Op.equalIn (d + 2) t (.agg (xs.map (Value.int k)).toArray) (.agg (ys.map (Value.int k)).toArray)).run P w = .ok (xs == ys) w := by
  rw [← all_range_int xs ys (hx.trans hy.symm), hx, List.range_eq_range', Op.equalIn]
  simp only [Sem.run_bind, run_underlying ht, Result.andThen_ok, hsz, Std.Legacy.Range.forIn_eq_forIn_range', Std.Legacy.Range.size, Nat.sub_zero, Nat.add_sub_cancel, Nat.div_one]
  have hl : ∀ i ∈ List.range' 0 n 1, i < n := fun i hi => by simpa using (List.mem_range'_1.1 hi).2
  generalize List.range' 0 n 1 = l at hl ⊢
  induction l with
  | nil => simp
  | cons i l ih =>
    have hi : i < n := hl i (by simp)
    have px : (part e (xs.map (Value.int k)).toArray (i * 1)).run P w = .ok (Value.int k (xs.getD i 0)) w := by
      simp [part, isAgg, run_underlying he, List.getD, List.getElem?_eq_getElem (show i < xs.length by omega)]
    have py : (part e (ys.map (Value.int k)).toArray (i * 1)).run P w = .ok (Value.int k (ys.getD i 0)) w := by
      simp [part, isAgg, run_underlying he, List.getD, List.getElem?_eq_getElem (show i < ys.length by omega)]
    have pe : (Op.equalIn (d + 1) e (Value.int k (xs.getD i 0)) (Value.int k (ys.getD i 0))).run P w = .ok (xs.getD i 0 == ys.getD i 0) w := by
      rw [run_equalIn_int w d e k k _ _ he]
      first | done | simp
    simp only [List.forIn_cons, Sem.run_bind, px, py, pe, Result.andThen_ok, List.all_cons]
    cases hb : (xs.getD i 0 == ys.getD i 0)
    · simp
    · simp only [Bool.not_true, Bool.false_eq_true, if_false, Sem.run_pure, Result.andThen_ok, Bool.true_and]
      exact ih fun j hj => hl j (by simp [hj])
end
end Go.Proofs.YtgecfcdafbedaaaGreat
