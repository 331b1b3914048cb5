/- The walks over params.exactly at uint32, GetCount, PutCount, of any bytes; The walk over params.GetSpots, of any bytes. -/
import Derived.Test.YtgecfcdafbedaaaGreatZRParamsBodies19
import Derived.Test.YtgecfcdafbedaaaGreatZRParamsBodies23
import Derived.Test.YtgecfcdafbedaaaGreatZRParamsBodies14
import Derived.Test.YtgecfcdafbedaaaGreatZRParamsBodies16
namespace Go.Proofs.YtgecfcdafbedaaaGreat
open Go.RowKit
set_option linter.unusedSimpArgs false
set_option linter.unusedVariables false

theorem pow256_mono {a b : Nat} (h : a ≤ b) : pow256 a ≤ pow256 b := by
  induction b with
  | zero => obtain rfl : a = 0 := by omega
            exact Int.le_refl _
  | succ k ih =>
    rcases Nat.lt_or_ge k a with h1 | h1
    · obtain rfl : a = k + 1 := by omega
      exact Int.le_refl _
    · have := ih h1
      have := pow256_pos k
      simp only [pow256]
      omega
theorem told_lt {l : List Int} {m : Nat} (h : ∀ x ∈ l, 0 ≤ x ∧ x ≤ 255) (hl : l.length ≤ m) : 0 ≤ told l ∧ told l < pow256 m := by
  obtain ⟨h1, h2⟩ := told_bounds l h
  have := pow256_mono hl
  exact ⟨h1, by omega⟩
theorem told4 {w : World} {A : Option Addr} {n : Nat} {bs : List Int} (r : Rd w .u8 A n bs) : 0 ≤ told (bs.take 4) ∧ told (bs.take 4) ≤ 4294967295 := by
  have h := told_lt (l := bs.take 4) (m := 4) (fun x hx => rd_bytes r x (List.mem_of_mem_take hx)) (by simp; omega)
  have e : pow256 4 = 4294967296 := by decide
  omega
theorem told8d {bs : List Int} (hb : ∀ x ∈ bs, 0 ≤ x ∧ x ≤ 255) (k : Nat) : 0 ≤ told ((bs.drop k).take 8) ∧ told ((bs.drop k).take 8) ≤ 18446744073709551615 := by
  have h := told_lt (l := (bs.drop k).take 8) (m := 8) (fun x hx => hb x (List.mem_of_mem_drop (List.mem_of_mem_take hx))) (by simp; omega)
  have e : pow256 8 = 18446744073709551616 := by decide
  omega
set_option maxHeartbeats 1000000 in
theorem exact_not (A : Option Addr) (n c : Nat) (w : World) (h : n ≠ 4) (hn : n ≤ 140737488351232) :
    Calls Tryz.prog 53 #[.slice A n c, .int .i64 4, .func (.func 43) #[] #[], .slice none 0 0] w fun e w' => e = .returned (.tuple #[.int .u32 0, .int .i64 4]) ∧ w = w' := by
  have f1 : ((n : Int) != 4) = true := by simp; omega
  clear h
  go_enter Tryz.func53, Tryz.ntmps53
  go_wp2_with fail
  go_ret2
  exact ⟨rfl, rfl⟩
/-- What GetCount answers. -/
def cntV (bs : List Int) (n : Nat) : Int := if n = 4 then told (bs.take 4) else 0
def cntE (n : Nat) : Int := if n = 4 then 0 else 4
set_option maxHeartbeats 1000000 in
theorem getcount_any (A : Option Addr) (n c : Nat) (bs : List Int) (w : World) (r : Rd w .u8 A n bs) (l : n ≤ c) :
    Calls Tryz.prog 14 #[.slice A n c] w fun e w' => e = .returned (.tuple #[.int .u32 (cntV bs n), .int .i64 (cntE n)]) ∧ Below w.heap.size w w' := by
  by_cases h : n = 4
  · subst h
    obtain ⟨h0, h1⟩ := told4 r
    have := count_any A c bs _ w r l rfl h0 h1
    simpa [cntV, cntE] using this
  · have H := Lib.hid (exact_not A n c w h r.big)
    have e1 : cntV bs n = 0 := if_neg h
    have e2 : cntE n = 4 := if_neg h
    rw [e1, e2]
    clear e1 e2 h r
    go_enter Tryz.func14, Tryz.ntmps14
    go_wp2_with fail
    refine H.out.mono ?_; rintro e w1 ⟨rfl, rfl⟩
    go_wp2_with fail
    go_ret2
    exact ⟨rfl, Below.refl _ _⟩
set_option maxHeartbeats 1000000 in
theorem putcount_any (v : Int) (w : World) (h0 : 0 ≤ v) (h1 : v ≤ 4294967295) : Calls Tryz.prog 31 #[.int .u32 v] w (Made w (be v 4)) := by
  have hw : IntKind.u64.wrap v = v := IntWalk.u64_in _ (by omega)
  have hp := put_any none 0 0 [] v 4 w ⟨rfl, by omega, fun x hx => by simp at hx, fun h => by omega⟩ (Nat.le_refl _) h0 (by omega)
  have e4 : putMany 4 = 4 := by decide
  rw [e4, List.nil_append] at hp
  have HP := Lib.hid hp
  clear hp e4
  go_enter Tryz.func31, Tryz.ntmps31
  go_wp2_with fail
  refine HP.out.mono ?_; rintro e w1 ⟨g, hg, rfl, hk, hB⟩
  have HF := Lib.hid (And.intro hg (And.intro hk hB))
  clear hg hk hB
  go_wp2_with fail
  refine (clip_all (some ⟨g, 0, none⟩) _ _ w1 (Nat.le_refl _)).mono ?_; rintro e w2 ⟨rfl, rfl⟩
  go_wp2_with fail
  go_ret
  exact ⟨g, HF.out.1, rfl, HF.out.2.1, HF.out.2.2⟩
end Go.Proofs.YtgecfcdafbedaaaGreat

namespace Go.Proofs.YtgecfcdafbedaaaGreat
open Go.RowKit Go.Shelf
set_option linter.unusedSimpArgs false
set_option linter.unusedVariables false

/-- The spots that bytes tell. -/
def rd4 (bs : List Int) (k : Nat) : Int := told ((bs.drop (1 + 4 * k)).take 4)
def spList (bs : List Int) (m : Nat) : List Int := (List.range m).map (rd4 bs)
theorem spList_succ (bs : List Int) (m : Nat) : spList bs (m + 1) = spList bs m ++ [rd4 bs m] := by simp [spList, List.range_succ]
theorem spList_len (bs : List Int) (m : Nat) : (spList bs m).length = m := by simp [spList]
/-- The bytes tell how many spots there are, and as many follow, and these may be. -/
def GsOk (bs : List Int) (n m : Nat) : Prop := m ≤ 4 ∧ bs[0]?.getD 0 = (m : Int) ∧ n = 1 + 4 * m ∧ SpOk m (atL (spList bs m))
/-- What GetSpots answers. -/
def SpGot (w : World) (bs : List Int) (n : Nat) (e : Ending) (w' : World) : Prop :=
  ((∃ m g, GsOk bs n m ∧ w.heap.size ≤ g ∧ e = .returned (.tuple #[.slice (some ⟨g, 0, none⟩) m m, .int .i64 0]) ∧ Rd w' .u32 (some ⟨g, 0, none⟩) m (spList bs m)) ∨ ((¬ ∃ m, GsOk bs n m) ∧ e = .returned (.tuple #[.slice none 0 0, .int .i64 4]))) ∧ Below w.heap.size w w'
theorem rd4_bound {bs : List Int} (hb : ∀ x ∈ bs, 0 ≤ x ∧ x ≤ 255) (k : Nat) : 0 ≤ rd4 bs k ∧ rd4 bs k ≤ 4294967295 := by
  have h := told_lt (l := (bs.drop (1 + 4 * k)).take 4) (m := 4) (fun x hx => hb x (List.mem_of_mem_drop (List.mem_of_mem_take hx))) (by simp; omega)
  have e : pow256 4 = 4294967296 := by decide
  unfold rd4
  omega
theorem wf_of_u32 {x : Int} (h : 0 ≤ x ∧ x ≤ 4294967295) : (Lit.int .u32 x).wf = true := by
  simp only [Lit.wf, Bool.and_eq_true, decide_eq_true_eq]
  exact h
theorem rd_ownS {w : World} {base n g c : Nat} {xs : List Int} (h : w.ownsRow base 73 1 (.slice (some ⟨g, 0, none⟩) n c) n (xs.map (Value.int .u32))) (hb : ∀ x ∈ xs, 0 ≤ x ∧ x ≤ 4294967295) (hl : xs.length = n) (hn : n ≤ 140737488351232) : Rd w .u32 (some ⟨g, 0, none⟩) n xs := by
  refine ⟨hl, hn, fun x hx => wf_of_u32 (hb x hx), fun h0 => ?_⟩
  obtain ⟨g', c', e, _, _, hr⟩ := rowF_of_own h h0 hl
  injection e with e1 e2 e3
  injection e1 with e1
  injection e1 with e1
  subst e1
  exact ⟨g, 0, rfl, hr.lt, fun j hj => by rw [Nat.zero_add]; exact hr.cell hj⟩
set_option maxRecDepth 100000 in
set_option maxHeartbeats 8000000 in
theorem getspots_any (A : Option Addr) (n c : Nat) (bs : List Int) (w : World) (r : Rd w .u8 A n bs) (l : n ≤ c) (hz : A = none → c = 0) :
    Calls Tryz.prog 7 #[.slice A n c] w (SpGot w bs n) := by
  have hbig := r.big
  have hby := rd_bytes r
  have HBY := Lib.hid hby
  have HR := Lib.hid r
  by_cases hn0 : n = 0
  · have HNO : Hid (¬ ∃ m, GsOk bs n m) := Lib.hid (fun ⟨m, h⟩ => by have := h.2.2.1; omega)
    have f1 : ((n : Int) == 0) = true := by simp [hn0]
    clear hn0 r hby
    go_enter Tryz.func7, Tryz.ntmps7
    go_wp2_with fail
    go_ret2
    exact ⟨.inr ⟨HNO.out, rfl⟩, Below.refl _ _⟩
  · obtain ⟨b, off, rfl, hb, hc⟩ := r.row (by omega)
    have c0 := hc 0 (by omega)
    rw [Nat.add_zero] at c0
    have hx0 : (0 : Int) ≤ bs[0]?.getD 0 ∧ bs[0]?.getD 0 ≤ (255 : Int) := wf_bounds_u8 (r.mem (j := 0) (by omega))
    obtain ⟨m, hm⟩ : ∃ m : Nat, bs[0]?.getD 0 = (m : Int) := ⟨(bs[0]?.getD 0).toNat, by omega⟩
    rw [hm] at c0 hx0
    have HM := Lib.hid hm
    have f1 : ((n : Int) == 0) = false := by simp; omega
    have i0 : (0 : Int) < (n : Int) := by omega
    have i1 : 0 < n := by omega
    by_cases h4 : (4 : Int) < (m : Int)
    · have HNO : Hid (¬ ∃ m, GsOk bs n m) := Lib.hid (fun ⟨m', h⟩ => by have h1 := h.1; have h2 := h.2.1; rw [HM.out] at h2; omega)
      have h4b : 4 < m := by omega
      clear hn0 r hby hc hm
      go_enter Tryz.func7, Tryz.ntmps7
      go_wp2_with fail
      go_ret2
      exact ⟨.inr ⟨HNO.out, rfl⟩, Below.refl _ _⟩
    · have h4f : ((4 : Int) < (m : Int)) = False := eq_false h4
      have h4g : (4 < m) = False := eq_false (by omega)
      have wm1 : IntKind.i64.wrap (m : Int) = (m : Int) := IntWalk.i64_in _ (by omega)
      have wm2 : IntKind.i64.wrap (4 * (m : Int)) = 4 * (m : Int) := IntWalk.i64_in _ (by omega)
      have wm3 : IntKind.i64.wrap (1 + 4 * (m : Int)) = ((1 + 4 * m : Nat) : Int) := by rw [IntWalk.i64_in _ (by omega)]; omega
      by_cases hn : n = 1 + 4 * m
      · have f2 : ((n : Int) != ((1 + 4 * m : Nat) : Int)) = false := by simp [hn]
        have f3 : ((n : Int) != 1 + 4 * (m : Int)) = false := by simp; omega
        have HN := Lib.hid (show n = 1 + 4 * m ∧ m ≤ 4 by omega)
        clear hn0 r hby hc hm h4 hn hx0
        go_enter Tryz.func7, Tryz.ntmps7
        go_wp2_with fail
        go_loopg [2, 4] m (fun gas s2 s4 wr => ∃ k : Nat, m - k = gas ∧ k ≤ m ∧ s4 = .int .i64 ((1 + 4 * k : Nat) : Int) ∧ wr.ownsRow w.heap.size 73 1 s2 k ((spList bs k).map (Value.int .u32)) ∧ Below w.heap.size w wr)
        case atStart => exact ⟨0, rfl, Nat.zero_le _, rfl, ⟨rfl, .inl ⟨rfl, rfl⟩⟩, Below.refl _ _⟩
        case round =>
          obtain ⟨k, rfl, hk, rfl, hO, hB⟩ := hrel
          have hO0 := hO
          obtain ⟨A2, c2, rfl, hc2, -, -⟩ := own_slice hO0
          have HO := Lib.hid hO
          have HB := Lib.hid hB
          have HC2 := Lib.hid hc2
          clear hO0 hc2
          obtain ⟨p, hp⟩ : ∃ p, 1 + 4 * k = p := ⟨_, rfl⟩
          rw [hp]
          have HP := Lib.hid hp
          have HKM := Lib.hid hk
          by_cases hlt : (p : Int) < (n : Int)
          · obtain ⟨A', q1, q2, q3⟩ := slice_from (some ⟨b, off, none⟩) n c p (by omega) l hz
            have hwp : IntKind.i64.wrap ((p : Int) + 4) = ((1 + 4 * (k + 1) : Nat) : Int) := by rw [IntWalk.i64_in _ (by omega)]; omega
            have hkm : k < m := by have := HN.out; omega
            have hr4 := q2 wr bs (HR.out.below hB)
            have hb4 := rd4_bound HBY.out k
            have hf := four_any A' (n - p) (c - p) (bs.drop p) (rd4 bs k) wr hr4 (by omega) (by have := HN.out; omega) (by rw [← hp]; rfl) hb4.1 hb4.2
            have HF := Lib.hid hf
            have HNX := Lib.hid (spList_succ bs k)
            have HKM2 := Lib.hid (show k + 1 ≤ m ∧ m - (k + 1) < m - k by omega)
            have HK4 := Lib.hid (show (k + 1) * 4 ≤ 140737488355328 ∧ k + 1 ≤ 5 by have := HN.out; omega)
            clear hO hB hp hk q2 q3 hr4 hb4 hf hkm
            go_wp2_with fail
            refine HF.out.mono ?_; rintro e w3 ⟨rfl, hB3⟩
            have HO3 := Lib.hid ((Keeps.of_below (M := fun _ => False) hB3).own HO.out (fun _ _ hf => hf))
            have HB3 := Lib.hid (HB.out.trans (hB3.mono HB.out.size))
            obtain ⟨z, hz4⟩ : ∃ z, rd4 bs k = z := ⟨_, rfl⟩
            have HZ4 := Lib.hid hz4
            rw [hz4]
            clear hB3 hz4
            go_wp2_with (at_builtin; refine append_int (W := w3) w.heap.size rfl _ _ 24 73 .u32 4 rfl Tryz.underlying24 info_spot (by omega) (.slice A2 k c2) k (spList bs k) z rfl rfl HO3.out HB3.out.size (by have := HK4.out; omega) ?_; intro v4 w4 ho4 hk4 _)
            have HB4 := Lib.hid (below_own HB3.out hk4 HO3.out)
            have HO4 : Hid (w4.ownsRow w.heap.size 73 1 v4 (k + 1) ((spList bs (k + 1)).map (Value.int .u32))) := Lib.hid (by rw [HNX.out, HZ4.out]; exact ho4)
            clear ho4 hk4
            go_wp2_with fail
            go_roundg (m - (k + 1))
            case rel => exact ⟨k + 1, rfl, HKM2.out.1, (by go_num), HO4.out, HB4.out⟩
            case measure => exact HKM2.out.2
          · have hltf : ((p : Int) < (n : Int)) = False := eq_false hlt
            obtain rfl : k = m := by have := HN.out; omega
            have HRS : Hid (Rd wr .u32 A2 k (spList bs k)) := by
              rcases Nat.eq_zero_or_pos k with h0 | h0
              · subst h0
                exact Lib.hid ⟨rfl, by omega, fun x hx => by simp [spList] at hx, fun h => by omega⟩
              · have h1 := hO
                obtain ⟨g, cap, e, _, _, _⟩ := rowF_of_own h1 h0 (spList_len bs k)
                injection e with e1 e2 e3
                subst e1
                exact Lib.hid (rd_ownS h1 (fun x hx => by
                  simp only [spList, List.mem_map] at hx
                  obtain ⟨i, _, rfl⟩ := hx
                  exact rd4_bound HBY.out i) (spList_len bs k) (by have := HN.out; omega))
            have HPS := Lib.hid (putspots_any A2 k c2 (spList bs k) wr HRS.out HC2.out (by have := HN.out; omega))
            clear hO hB hp hk hlt
            go_wp2_with fail
            refine HPS.out.mono ?_; rintro e w5 ⟨⟨hok, g5, hg5, rfl, hk5⟩ | ⟨hno, rfl⟩, hB5⟩
            · have hk0 : 0 < k := hok.1
              have HGO : Hid (GsOk bs n k) := Lib.hid ⟨HN.out.2, HM.out, HN.out.1, hok⟩
              have ho := HO.out
              obtain ⟨g, cap, e, hcap, hg, _⟩ := rowF_of_own ho hk0 (spList_len bs k)
              injection e with e1 e2 e3
              subst e1
              have HG := Lib.hid hg
              have HRF := Lib.hid (HRS.out.below hB5)
              have HBF := Lib.hid (HB.out.trans (hB5.mono HB.out.size))
              clear hok hg5 hk5 hB5 ho hcap hg e3 hk0
              go_wp2_with fail
              refine (clipS_all (some ⟨g, 0, none⟩) k c2 w5 HC2.out).mono ?_; rintro e w6 ⟨rfl, rfl⟩
              go_wp2_with fail
              go_ret2
              exact ⟨.inl ⟨k, g, HGO.out, HG.out, rfl, HRF.out⟩, HBF.out⟩
            · have HNO : Hid (¬ ∃ m, GsOk bs n m) := Lib.hid (fun ⟨m', h⟩ => by
                have h2 := h.2.1
                rw [HM.out] at h2
                obtain rfl : m' = k := by omega
                exact hno h.2.2.2)
              have HBF := Lib.hid (HB.out.trans (hB5.mono HB.out.size))
              clear hno hB5
              go_wp2_with fail
              go_ret2
              exact ⟨.inr ⟨HNO.out, rfl⟩, HBF.out⟩
      · have f2 : ((n : Int) != ((1 + 4 * m : Nat) : Int)) = true := by simp; omega
        have f3 : ((n : Int) != 1 + 4 * (m : Int)) = true := by simp; omega
        have HNO : Hid (¬ ∃ m, GsOk bs n m) := Lib.hid (fun ⟨m', h⟩ => by
          have h2 := h.2.1
          have h3 := h.2.2.1
          rw [HM.out] at h2
          exact hn (by omega))
        clear hn0 r hby hc hm h4 hn
        go_enter Tryz.func7, Tryz.ntmps7
        go_wp2_with fail
        go_ret2
        exact ⟨.inr ⟨HNO.out, rfl⟩, Below.refl _ _⟩
end Go.Proofs.YtgecfcdafbedaaaGreat
