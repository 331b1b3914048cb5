/- The walks over TwinSpots and LeftSpots; a Book is told of spots; A Book's marks are written into all its lists of one kind (Byte). Printed by mkbk.py. -/
import Derived.Test.YtgecfcdafbedaaaGreatDoorZRSpotsPlayUpto4
import Derived.Laws.MakeOwn
import Derived.Test.YtgecfcdafbedaaaGreatDoorZRSpotsPlayUpto7
import Derived.Test.YtgecfcdafbedaaaGreatDoorZRSpotsPlayUpto32
import Derived.Test.YtgecfcdafbedaaaGreatDoorZRSpotsPlayUpto30
namespace Go.Proofs.YtgecfcdafbedaaaGreatDoor
open Go.RowKit
set_option linter.unusedSimpArgs false
set_option linter.unusedVariables false

theorem slice_toS (W : World) (A : Option Addr) (len c m : Nat) (h : m ≤ c) : (Instr.slice 50 (.slice A len c) none (some (.int .i64 (m : Int))) none).run Tryz.prog W = .ok (.slice A m c) W := by
  rw [run_slice_h W 50 A len c (by kernel_rfl) .i64 (m : Int) (by omega) (by omega), show (sizeOf (Tryz.prog.elem 50)).run Tryz.prog W = .ok 1 W from by kernel_rfl]
  simp only [Result.andThen, sliced]
  have h0 : ∀ ad : Addr, ad.add 0 = ad := fun ad => by cases ad; unfold Addr.add; split <;> simp_all
  cases A with
  | none => simp
  | some ad => simp [h0]
theorem own_someS {w : World} {base n : Nat} {v : Value} {xs : List Int} (h : w.ownsRow base 23 1 v n (xs.map (Value.int .u32))) (hn : 0 < n) : ∃ g c, v = .slice (some ⟨g, 0, none⟩) n c ∧ n ≤ c ∧ base ≤ g ∧ g < w.heap.size := by
  obtain ⟨_, A, c, rfl, hc, _, hr⟩ := own_ints h
  obtain ⟨g, rfl, hb, hg, _⟩ := hr hn
  exact ⟨g, c, rfl, hc, hb, hg⟩
/-- New spots with room for more. -/
def TwinSp (w : World) (bs : List Int) (e : Ending) (w' : World) : Prop :=
  ∃ g cap, e = .returned (.slice (some ⟨g, 0, none⟩) bs.length cap) ∧ bs.length < cap ∧ cap ≤ maxLen ∧ w.heap.size ≤ g ∧ g < w'.heap.size ∧ w'.ownsRow w.heap.size 23 1 (.slice (some ⟨g, 0, none⟩) (bs.length + 1) cap) (bs.length + 1) ((bs ++ [77]).map (Value.int .u32)) ∧ Below w.heap.size w w'

set_option maxRecDepth 100000 in
set_option maxHeartbeats 1000000 in
theorem twinSp_any (A0 : Option Addr) (n0 c0 : Nat) (bs : List Int) (w : World) (r0 : Rd w .u32 A0 n0 bs) (l0 : n0 ≤ c0) (hn : n0 ≤ 35184372087808) :
    Calls Tryz.prog 7 #[.slice A0 n0 c0] w (TwinSp w bs) := by
  have hl := r0.len
  obtain ⟨i0, hi, hzz⟩ := Option.map_eq_some_iff.1 info_spotS
  simp only [Prod.mk.injEq] at hzz
  obtain ⟨hz0, hz1, hz2⟩ := hzz
  obtain ⟨w1, hmk, hown, hg⟩ := run_make_own (P := Tryz.prog) w w.heap.size 50 23 i0 (.int .u32 0) 1 Tryz.underlying50 hi hz0 hz1 .i64 .i64 (n0 + 1) (by rw [hz2]; omega) (by unfold maxLen; omega) (Nat.le_refl _)
  have hB1 : Below w.heap.size w w1 := ⟨hg.os, hg.tape, hg.output, hg.size, fun i hi => hg.block i hi (by simp)⟩
  have hst : w1.ownsRow w.heap.size 23 1 (.slice (some ⟨w.heap.size, 0, none⟩) 0 (n0 + 1)) 0 ((bs.take 0).map (Value.int .u32)) := by simpa using hown
  have HST := Lib.hid hst
  have HB := Lib.hid hB1
  clear hst hown hg hi hz0 hz1 hz2 hB1
  have e1 : ((n0 + 1 : Nat) : Int) = (n0 : Int) + 1 := by omega
  rw [e1] at hmk
  go_enter Tryz.func7, Tryz.ntmps7
  go_wp2_with fail
  go_loopw [3, 4] (fun t i wr => ∃ k : Nat, k ≤ n0 ∧ i = .int .i64 k ∧ wr.ownsRow w.heap.size 23 1 t k ((bs.take k).map (Value.int .u32)) ∧ Below w.heap.size w wr) (fun _ i _ => n0 - (intOf i).toNat)
  case atStart => exact ⟨0, Nat.zero_le _, rfl, HST.out, HB.out⟩
  case round =>
    obtain ⟨k, hk, rfl, ho, hB⟩ := hrel
    obtain ⟨AA, cc, rfl, -, -, -⟩ := own_slice ho
    by_cases hlt : k < n0
    · have rr := r0.below hB
      obtain ⟨b, off, rfl, _, hc⟩ := rr.row (by omega)
      have hcj := hc k hlt
      have htk : bs.take (k + 1) = bs.take k ++ [bs[k]?.getD 0] := by rw [List.take_succ_eq_append_getElem (by omega)]; simp [show k < bs.length by omega]
      generalize bs[k]?.getD 0 = x at *
      have i0 : (0 : Int) ≤ (k : Int) := by omega
      have i1 : (k : Int) < (n0 : Int) := by omega
      have HT := Lib.hid htk
      have HO := Lib.hid ho
      have HBB := Lib.hid hB
      clear htk ho hB hc rr hmk
      go_wp2_with (at_builtin; refine append_int (W := wr) w.heap.size rfl _ _ 50 23 .u32 4 rfl Tryz.underlying50 info_spotS (by omega) (.slice AA k cc) k (bs.take k) x rfl rfl HO.out HBB.out.size (by omega) ?_; intro v1 w2 ho2 hk2 hb2)
      go_roundw
      case rel =>
        refine ⟨k + 1, by omega, by go_num, by rw [HT.out]; exact ho2, ?_⟩
        refine below_keeps HBB.out hk2 (Nat.le_refl _) (fun i hi => ?_)
        exact (own_base HO.out i hi).1
      case measure => simp [intOf]; omega
    · obtain rfl : k = n0 := by omega
      have HO := Lib.hid ho
      have HBB := Lib.hid hB
      clear ho hB hmk
      go_wp2_with (at_builtin; refine append_int (W := wr) w.heap.size rfl _ _ 50 23 .u32 4 rfl Tryz.underlying50 info_spotS (by omega) (.slice AA k cc) k (bs.take k) 77 rfl rfl HO.out HBB.out.size (by omega) ?_; intro v1 w2 ho2 hk2 hb2; obtain ⟨g, c, rfl, hc, hg, hlt2⟩ := own_someS ho2 (by omega); have hsl := fun W => slice_toS W (some ⟨g, 0, none⟩) (k + 1) c k (by omega); have HHC := Lib.hid hc; have HO3 := Lib.hid ho2; clear hc ho2)
      have hc := HHC.out
      have ho2 := HO3.out
      have hcm : c ≤ maxLen := by
        obtain ⟨_, c', e, _, h, _⟩ := own_slice ho2
        injection e with _ _ e; omega
      have HB2 := below_keeps HBB.out hk2 (Nat.le_refl _) (fun i hi => (own_base HO.out i hi).1)
      go_ret
      refine ⟨g, c, ?_, by omega, hcm, hg, hlt2, ?_, HB2⟩
      · rw [hl]; rfl
      · rw [hl]
        have := ho2
        rw [List.take_of_length_le (by omega)] at this
        exact this
set_option maxRecDepth 100000 in
set_option maxHeartbeats 1000000 in
theorem leftSp_any (g n0 cap : Nat) (bs : List Int) (A1 : Option Addr) (c1 : Nat) (w : World) (hcap : n0 < cap) (hcm : cap ≤ maxLen) (rt : Rd w .u32 (some ⟨g, 0, none⟩) (n0 + 1) (bs ++ [77])) (r1 : Rd w .u32 A1 n0 bs) :
    Calls Tryz.prog 26 #[.slice (some ⟨g, 0, none⟩) n0 cap, .slice A1 n0 c1] w fun e w' => e = .returned (.bool true) ∧ Drawn w w' := by
  have h1 := r1.len
  have b1 := r1.big
  obtain ⟨gg, oo, hg, _, ht⟩ := rt.row (by omega)
  obtain ⟨rfl, rfl⟩ : g = gg ∧ 0 = oo := by injection hg with hg; injection hg with e1 e2 _; exact ⟨e1, e2⟩
  clear hg
  have hlast : w.cell? ⟨g, n0, none⟩ = some (.int .u32 77) := by
    have := ht n0 (by omega)
    rw [Nat.zero_add, List.getElem?_append_right (by omega), h1, Nat.sub_self] at this
    exact this
  have hsl : ∀ W : World, (Instr.slice 50 (.slice (some ⟨g, 0, none⟩) n0 cap) none (some (.int .i64 ((n0 : Int) + 1))) none).run Tryz.prog W = .ok (.slice (some ⟨g, 0, none⟩) (n0 + 1) cap) W := fun W => by
    have := slice_toS W (some ⟨g, 0, none⟩) n0 cap (n0 + 1) (by omega)
    rwa [show ((n0 + 1 : Nat) : Int) = (n0 : Int) + 1 by omega] at this
  have hw : IntKind.i64.wrap ((n0 : Int) + 1) = (n0 : Int) + 1 := IntWalk.i64_in _ (by omega)
  have HSL := Lib.hid hsl
  have HLAST := Lib.hid hlast
  clear hsl hlast hcm
  go_enter Tryz.func26, Tryz.ntmps26
  go_wp2_with fail
  go_loopw [5] (fun i wr => ∃ k : Nat, k ≤ n0 ∧ i = .int .i64 k ∧ Drawn w wr) (fun i _ => n0 - (intOf i).toNat)
  case atStart => exact ⟨0, Nat.zero_le _, rfl, Drawn.refl _⟩
  case round =>
    obtain ⟨k, hk, rfl, q, rfl⟩ := hrel
    by_cases hlt : k < n0
    · obtain ⟨b, ob, rfl, _, hb⟩ := r1.row (by omega)
      have hca := ht k (by omega)
      have hcb2 := hb k hlt
      rw [Nat.zero_add, List.getElem?_append_left (by omega)] at hca
      generalize bs[k]?.getD 0 = u at *
      have i0 : (0 : Int) ≤ (k : Int) := by omega
      have i1 : (k : Int) < (n0 : Int) := by omega
      clear ht hb rt r1 hw
      go_wp2_with fail
      go_quiet (fail)
      go_wp2_with fail
      go_roundw
      case rel => exact ⟨k + 1, by omega, by go_num, _, rfl⟩
      case measure => simp [intOf]; omega
    · obtain rfl : k = n0 := by omega
      have hsl := HSL.out
      have hlast := HLAST.out
      have i0 : (0 : Int) ≤ (k : Int) := by omega
      clear ht rt r1
      go_wp2_with fail
      go_ret
      exact ⟨rfl, _, rfl⟩
theorem bspots_bk (base B m : Nat) (H : Nat → List Hb) (A : Option Addr) (n c : Nat) (w : World) (hb : BookAt base w B m H) (hbase : base ≤ w.heap.size) (hf : m < 30000) :
    Calls Tryz.prog 19 #[.pointer (some ⟨B, 0, none⟩), .slice A n c] w fun e w' => e = .returned (.tuple #[]) ∧ BookAt base w' B (m + 1) (upd H 7 (H 7 ++ [⟨A, n, c, none, 0, 0, m + 1⟩])) ∧ Keeps (ByBook base B 102 w) w w' := by
  have HK := Lib.hid (keepSpot_any base B m H A n c w hb hbase hf)
  clear hb hbase hf
  go_enter Tryz.func19, Tryz.ntmps19
  go_wp2_with fail
  refine HK.out.mono ?_; rintro e w1 ⟨rfl, h1, h2⟩
  have H1 := Lib.hid h1
  have H2 := Lib.hid h2
  clear h1 h2
  go_wp2_with fail
  go_end0
  exact ⟨rfl, H1.out, H2.out⟩
end Go.Proofs.YtgecfcdafbedaaaGreatDoor

namespace Go.Proofs.YtgecfcdafbedaaaGreatDoor
open Go.RowKit
set_option linter.unusedSimpArgs false
set_option linter.unusedVariables false

def kByte : Kd := ⟨1, 104, 5, 1, fun n => [.int .u8 ((n % 256 : Nat) : Int)]⟩
theorem okByte : kByte.Ok := ⟨by decide, by decide, by decide, rfl, fun _ => rfl, fun n v hv => by
  simp only [kByte, List.mem_cons, List.not_mem_nil, or_false] at hv
  subst hv; rfl, by unfold Far; decide⟩
theorem info_Byte : (Tryz.prog.info? 5).map (fun i => (i.zero, i.size, i.bytes)) = some (some (.int .u8 0), 1, 1) := by kernel_rfl
theorem size_hByte : (Tryz.prog.info? 104).map (·.size) = some 3 := by kernel_rfl
set_option maxRecDepth 100000 in
theorem markByte_any (n : Nat) (w : World) (hn : n ≤ 30000) : Calls Tryz.prog 90 #[.int .i64 (n : Int)] w fun e w' => e = .returned (.int .u8 ((n % 256 : Nat) : Int)) ∧ w = w' := by
  have hw : IntKind.u8.wrap (n : Int) = ((n % 256 : Nat) : Int) := by simp [IntKind.wrap, IntKind.bits, IntKind.signed]
  go_enter Tryz.func90, Tryz.ntmps90
  go_wp2_with fail
  go_ret
  exact ⟨rfl, rfl⟩

set_option maxRecDepth 100000 in
set_option maxHeartbeats 8000000 in
theorem fillByte_any (base B m : Nat) (H : Nat → List Hb) (w : World) (hb : BookAt base w B m H) (hrow : ∀ (i : Nat) (h : Hb), (H 1)[i]? = some h → ∃ cs, RowIs kByte base w h cs) (hf : Fine (H 1)) :
    Calls Tryz.prog 37 #[.pointer (some ⟨B, 0, none⟩)] w fun e w' => e = .returned (.tuple #[]) ∧ (∀ (i : Nat) (h : Hb), (H 1)[i]? = some h → RowIs kByte base w' h (marksG kByte h.n h.len)) ∧ Keeps (ByTy base 5 w) w w' := by
  have hu : Tryz.prog.underlying 104 = some (.struct _) := Tryz.underlying104
  have hty : ∀ (i : Nat) (h : Hb), (H 1)[i]? = some h → ∀ k, h.l.ownBlock = some k → k < w.heap.size ∧ ByTy base 5 w k := fun i h hi k hk => by
    obtain ⟨cs, hc⟩ := hrow i h hi
    obtain ⟨h1, h2, h3⟩ := hc.ty hk
    exact ⟨h2, .inl ⟨h1, h3⟩⟩
  have HB_ := Lib.hid hb
  have HROW := Lib.hid hrow
  have HTY := Lib.hid hty
  have HF := Lib.hid hf
  have HU := Lib.hid hu
  obtain ⟨N, hN⟩ : ∃ N, (H 1).length = N := ⟨_, rfl⟩
  have HN := Lib.hid hN
  have hfew : N ≤ 30000 := by rw [← hN]; exact Nat.le_trans (hb.few 1 (by omega) (by omega)) hb.most
  clear hb hrow hf hu hN hty
  go_enter Tryz.func37, Tryz.ntmps37
  go_wp2_with fail
  go_loopw [2] (fun s wr => ∃ j : Nat, j ≤ N ∧ s = .int .i64 j ∧ (∀ (i : Nat) (h : Hb), i < j → (H 1)[i]? = some h → RowIs kByte base wr h (marksG kByte h.n h.len)) ∧ (∀ (i : Nat) (h : Hb), j ≤ i → (H 1)[i]? = some h → ∃ cs, RowIs kByte base wr h cs) ∧ Keeps (ByTy base 5 w) w wr) (fun s _ => N - (intOf s).toNat)
  case atStart => exact ⟨0, Nat.zero_le _, rfl, fun i h hi => absurd hi (by omega), fun i h _ hi => HROW.out i h hi, Keeps.refl _ _⟩
  case round =>
    obtain ⟨j, hj, rfl, hdone, htodo, hkp⟩ := hrel
    have hbk := HB_.out.keepFar hkp (fun _ h => h) okByte.far
    by_cases hlt : j < N
    · obtain ⟨h, hh⟩ : ∃ h, (H 1)[j]? = some h := ⟨_, List.getElem?_eq_getElem (by rw [HN.out]; exact hlt)⟩
      obtain ⟨gS, cS, hB1, hcS, hgS, hbS, hcurS, hrowS⟩ := hbk.at_ (by omega) (by omega) hh
      obtain ⟨xs, hxs⟩ := htodo j h (Nat.le_refl _) hh
      have hxl := hxs.len
      have hn := HF.out.n j h hh
      have hlen := HF.out.len j h hh
      rw [HN.out] at hB1
      have hs3 : (Tryz.prog.info? 104).map (·.size) = some (hbC h).length := size_hByte
      have hs4 : (Tryz.prog.info? 104).map (·.size) = some (hbC h).toArray.size := size_hByte
      have h1 : (hbC h).toArray.all (·.oneCell') = true := all_oneCell_toArray (hbC_one h)
      have HK4 : Hid (Blk (wr.alloc (.cells zHb.toArray 104)) wr.heap.size 104 zHb) := Lib.hid (Blk.new wr 104 zHb)
      have HTH : Hid ((wr.alloc (.cells zHb.toArray 104)).there wr.heap.size 0 (hbC h).toArray.size) := Lib.hid (HK4.out.there 0 _ (by simp [zHb, hbC]))
      have hk5 : Blk ((wr.alloc (.cells zHb.toArray 104)).setCells wr.heap.size 0 (hbC h)) wr.heap.size 104 (hbC h) := by
        have := Blk.setCells (hbC h) 0 _ _ HK4.out (by simp [zHb, hbC])
        rwa [splice_whole _ _ (by simp [zHb, hbC])] at this
      have hB5 : Below wr.heap.size wr ((wr.alloc (.cells zHb.toArray 104)).setCells wr.heap.size 0 (hbC h)) := below_keeps (new_belowB _ _) (Keeps.setCells (g := wr.heap.size) _ 0 _) (Nat.le_refl _) (fun i hi => by have e : i = wr.heap.size := hi; omega)
      obtain ⟨w5, hw5⟩ : ∃ w5, (wr.alloc (.cells zHb.toArray 104)).setCells wr.heap.size 0 (hbC h) = w5 := ⟨_, rfl⟩
      rw [hw5] at hk5 hB5
      have HW5 := Lib.hid hw5
      have HX5 := Lib.hid (hxs.below hB5)
      have HK5 := Lib.hid hk5
      have HWZ : Hid (w.heap.size ≤ w5.heap.size) := Lib.hid (Nat.le_trans hkp.size hB5.size)
      have HROWS := Lib.hid (hrowS _ rfl)
      have HS3 := Lib.hid hs3
      have HS4 := Lib.hid hs4
      have H1 := Lib.hid h1
      have HH := Lib.hid hh
      have HXL : Hid (xs.length = h.len * kByte.q) := Lib.hid hxl
      have HDONE := Lib.hid (fun (i : Nat) (h2 : Hb) (hi : i < j) (hi2 : (H 1)[i]? = some h2) => (hdone i h2 hi hi2).below hB5)
      have HTODO : Hid (∀ (i : Nat) (h2 : Hb), j ≤ i → (H 1)[i]? = some h2 → ∃ cs, RowIs kByte base w5 h2 cs) := Lib.hid (fun i h2 hi hi2 => by
        obtain ⟨ys, hys⟩ := htodo i h2 hi hi2
        exact ⟨ys, hys.below hB5⟩)
      have HKP := Lib.hid (hkp.below hB5)
      have c0 : w5.cell? ⟨wr.heap.size, 0, none⟩ = some (.slice h.A h.len h.cap) := HK5.out.cell 0
      have c2 : w5.cell? ⟨wr.heap.size, 2, none⟩ = some (.int .i64 (h.n : Int)) := HK5.out.cell 2
      have HG : Hid (∀ k, h.l.ownBlock = some k → k ≠ wr.heap.size) := Lib.hid (fun k hk => by have := (hxs.ty hk).2.1; omega)
      obtain ⟨Y, hY⟩ : ∃ Y, hbC h = Y := ⟨_, rfl⟩
      obtain ⟨Z, hZ⟩ : ∃ Z, zHb = Z := ⟨_, rfl⟩
      have HZ := Lib.hid hZ
      rw [hY] at HROWS HS3 HS4 H1 HTH HW5
      rw [hZ] at HTH HW5
      have j0 : (0 : Int) ≤ (j : Int) := by omega
      have j1 : (j : Int) < (N : Int) := by omega
      have jadd : IntKind.i64.wrap ((j : Int) + 1) = (j : Int) + 1 := IntWalk.i64_in _ (by omega)
      clear hk5 hB5 hw5 hY hZ hbk hrowS hcurS hxs hs3 hs4 h1 hh hdone htodo hkp HK4 hxl
      go_wp2_with (first
        | (refine wpList_load_mid rfl 104 _ rfl gS (j * 3) rfl Y _ HROWS.out HU.out rfl HS3.out ?_)
        | (refine wpList_value (o := ⟨some 3, .alloc 104, _, _, _, _⟩) (v := .pointer (some ⟨wr.heap.size, 0, none⟩)) (w' := wr.alloc (.cells zHb.toArray 104)) rfl (by kernel_rfl) ?_; rw [HZ.out])
        | (refine wpList_store_mid rfl 104 _ _ rfl wr.heap.size 0 Y.toArray rfl rfl HTH.out HS4.out H1.out ?_; rw [show Y.toArray.toList = Y from rfl, HW5.out]))
      clear HW5 HTH HROWS hgS hB1
      have HGZ : Hid (wr.heap.size < w5.heap.size) := Lib.hid HK5.out.lt
      generalize wr.heap.size = G at *
      clear wr
      go_loopw [4] (fun s wr => ∃ k : Nat, k ≤ h.len ∧ s = .int .i64 k ∧ RowIs kByte base wr h (marksG kByte h.n k ++ xs.drop (k * kByte.q)) ∧ Keeps (fun x => h.l.ownBlock = some x) w5 wr) (fun s wr => h.len - (intOf s).toNat)
      case atStart => exact ⟨0, Nat.zero_le _, rfl, by rw [show marksG kByte h.n 0 ++ xs.drop (0 * kByte.q) = xs by simp [marksG]]; exact HX5.out, Keeps.refl _ _⟩
      case round =>
        obtain ⟨k, hk, rfl, hrk, hkk⟩ := hrel
        have hkq := HK5.out.keep hkk (fun hm => HG.out _ hm rfl)
        have q0 : wr.cell? ⟨G, 0, none⟩ = some (.slice h.A h.len h.cap) := hkq.cell 0
        have q2 : wr.cell? ⟨G, 2, none⟩ = some (.int .i64 (h.n : Int)) := hkq.cell 2
        by_cases hkl : k < h.len
        · obtain ⟨g, cg, hl, hlc, hbg, hgl, hcell, hfz⟩ := hrk.at_ (by omega)
          have hl' : Value.slice h.A h.len h.cap = .slice (some ⟨g, 0, none⟩) h.len cg := hl
          injection hl' with hA _ hcg
          have hob : h.l.ownBlock = some g := by rw [hl]; rfl
          have hgG : g ≠ G := HG.out g hob
          have hrl : (marksG kByte h.n k ++ xs.drop (k * kByte.q)).length = h.len * 1 := hrk.len
          have hq : kByte.q = 1 := rfl
          have hml : (marksG kByte h.n k).length = k * 1 := marksG_len okByte h.n k
          have hput : ∀ W, Keeps (fun x => h.l.ownBlock = some x) w5 W → RowIs kByte base W h (marksG kByte h.n k ++ xs.drop (k * kByte.q)) → RowIs kByte base (W.setCells g (k * 1) (kByte.mark h.n)) h (marksG kByte h.n (k + 1) ++ xs.drop ((k + 1) * kByte.q)) ∧ Keeps (fun x => h.l.ownBlock = some x) w5 (W.setCells g (k * 1) (kByte.mark h.n)) := fun W hKW hRW => by
            refine ⟨?_, hKW.trans ((Keeps.setCells _ _ _).mono (fun x hx => by rw [hx]; exact hob))⟩
            have e := marksG_splice okByte h.n k xs (by rw [HXL.out, hq]; exact Nat.mul_le_mul_right _ hkl)
            have hRW' : RowG kByte.E kByte.q base W (.slice (some ⟨g, 0, none⟩) h.len cg) h.len (marksG kByte h.n k ++ xs.drop (k * kByte.q)) := by rw [← hl]; exact hRW
            have := hRW'.set (vs := kByte.mark h.n) (o := k * kByte.q) (by rw [okByte.len, hrl, hq]; rw [← Nat.succ_mul]; exact Nat.mul_le_mul_right _ hkl)
            rw [e] at this
            show RowG kByte.E kByte.q base _ h.l h.len _
            rw [hl]
            exact this
          obtain ⟨old, hold⟩ : ∃ old, (marksG kByte h.n k ++ xs.drop (k * kByte.q))[k]? = some old := ⟨_, List.getElem?_eq_getElem (by omega)⟩
          have hgk : wr.drew.cell? ⟨g, k, none⟩ = some old := hcell k old hold
          have hgf : wr.drew.frozen? ⟨g, k, none⟩ = false := hfz k
          have hput2 := hput wr.drew hkk.drew (hrk.below (drew_belowB wr))
          rw [Nat.mul_one] at hput2
          have hput3 : RowIs kByte base (wr.drew.setCell ⟨g, k, none⟩ (.int .u8 ((h.n % 256 : Nat) : Int))) h (marksG kByte h.n (k + 1) ++ xs.drop ((k + 1) * kByte.q)) ∧ Keeps (fun x => h.l.ownBlock = some x) w5 (wr.drew.setCell ⟨g, k, none⟩ (.int .u8 ((h.n % 256 : Nat) : Int))) := hput2
          have hqk := (hkq.drew).keep (Keeps.set1 wr.drew ⟨g, k, none⟩ (.int .u8 ((h.n % 256 : Nat) : Int))) (fun e => hgG e.symm)
          have r0 : (wr.drew.setCell ⟨g, k, none⟩ (.int .u8 ((h.n % 256 : Nat) : Int))).cell? ⟨G, 0, none⟩ = some (.slice h.A h.len h.cap) := hqk.cell 0
          have r2 : (wr.drew.setCell ⟨g, k, none⟩ (.int .u8 ((h.n % 256 : Nat) : Int))).cell? ⟨G, 2, none⟩ = some (.int .i64 (h.n : Int)) := hqk.cell 2
          have HPUT := Lib.hid hput3
          have k0 : (0 : Int) ≤ (k : Int) := by omega
          have k1 : (k : Int) < (h.len : Int) := by omega
          have kadd : IntKind.i64.wrap ((k : Int) + 1) = (k : Int) + 1 := IntWalk.i64_in _ (by omega)
          rw [hA] at q0 r0
          have R0 := Lib.hid r0
          have R2 := Lib.hid r2
          clear hrk hkk hkq hcell hfz hob hbg hgl hput hrl hml
          clear r0 r2 hput2 hput3 hqk hold
          go_wp2_with fail
          refine wp_region_noPanic ?_
          refine wp_region_held_drew (S := (fun w' => w'.cell? ⟨G, 0, none⟩ = some (.slice (some ⟨g, 0, none⟩) h.len h.cap) ∧ w'.cell? ⟨G, 2, none⟩ = some (.int .i64 (h.n : Int)))) (by kernel_rfl) ?_ (fun hHeld => ?_)
          · ((try dsimp only); refine ⟨?_, ?_⟩ <;> (first | assumption | (go_keep; done)))
          refine wpAnyH_take (i := 0) (oi := ⟨some 28, _, _, _, _, _⟩) (v := ?_) rfl (by kernel_rfl) (by kernel_rfl) (by kernel_rfl) (fun _ _ _ h => False.elim h) (Or.inl ⟨by rfl, ?_⟩) (by assumption) ?_
          rotate_left
          · intro w hSw
            (try dsimp only at hSw)
            go_simp
            all_goals with_reducible rfl
          (try simp only [Act.put, List.setIfInBounds_toArray, List.set_cons_zero, List.set_cons_succ])
          refine wpAnyH_take (i := 1) (oi := ⟨some 29, _, _, _, _, _⟩) (v := ?_) rfl (by kernel_rfl) (by kernel_rfl) (by kernel_rfl) (fun _ _ _ h => False.elim h) (Or.inl ⟨by rfl, ?_⟩) (by assumption) ?_
          rotate_left
          · intro w hSw
            (try dsimp only at hSw)
            go_simp
            all_goals with_reducible rfl
          (try simp only [Act.put, List.setIfInBounds_toArray, List.set_cons_zero, List.set_cons_succ])
          refine wpAnyH_take (i := 2) (oi := ⟨some 30, _, _, _, _, _⟩) (v := ?_) rfl (by kernel_rfl) (by kernel_rfl) (by kernel_rfl) (fun _ _ _ h => False.elim h) (Or.inl ⟨by rfl, ?_⟩) (by assumption) ?_
          rotate_left
          · intro w hSw
            (try dsimp only at hSw)
            go_simp
            all_goals with_reducible rfl
          (try simp only [Act.put, List.setIfInBounds_toArray, List.set_cons_zero, List.set_cons_succ])
          refine wpAnyH_take (i := 3) (oi := ⟨some 31, _, _, _, _, _⟩) (v := ?_) rfl (by kernel_rfl) (by kernel_rfl) (by kernel_rfl) (fun _ _ _ h => False.elim h) (Or.inl ⟨by rfl, ?_⟩) (by assumption) ?_
          rotate_left
          · intro w hSw
            (try dsimp only at hSw)
            go_simp
            all_goals with_reducible rfl
          (try simp only [Act.put, List.setIfInBounds_toArray, List.set_cons_zero, List.set_cons_succ])
          refine wpAnyH_take (i := 4) (oi := ⟨some 32, _, _, _, _, _⟩) (v := ?_) rfl (by kernel_rfl) (by kernel_rfl) (by kernel_rfl) (fun _ _ _ h => False.elim h) (Or.inl ⟨by rfl, ?_⟩) (by assumption) ?_
          rotate_left
          · intro w hSw
            (try dsimp only at hSw)
            go_simp
            all_goals with_reducible rfl
          (try simp only [Act.put, List.setIfInBounds_toArray, List.set_cons_zero, List.set_cons_succ])
          refine wpAnyH_ready (rs := [5]) (by kernel_rfl) (by simp) ?_
          refine AllReadyH.cons (o := ⟨some 33, _, _, _, _, _⟩) rfl (fun K hK => ?_) AllReadyH.nil
          go_simp
          (refine (markByte_any h.n _ hn.2).mono ?_; rintro e wm ⟨rfl, rfl⟩)
          (try go_wp2_with fail)
          refine hK.out _ _ ?_ (fun hHeld => ?_)
          · ((try dsimp only); refine ⟨?_, ?_⟩ <;> (first | assumption | (go_keep; done)))
          clear hK K
          (try simp only [Act.put, List.setIfInBounds_toArray, List.set_cons_zero, List.set_cons_succ])
          refine wpAnyH_take (i := 6) (oi := ⟨some 34, _, _, _, _, _⟩) (v := ?_) rfl (by kernel_rfl) (by kernel_rfl) (by kernel_rfl) (fun _ _ _ h => False.elim h) (Or.inl ⟨by rfl, ?_⟩) (by assumption) ?_
          rotate_left
          · intro w hSw
            (try dsimp only at hSw)
            go_simp
            all_goals with_reducible rfl
          (try simp only [Act.put, List.setIfInBounds_toArray, List.set_cons_zero, List.set_cons_succ])
          refine wpAnyH_ready (rs := [7]) (by kernel_rfl) (by simp) ?_
          refine AllReadyH.cons (o := ⟨none, _, _, _, _, _⟩) rfl (fun K hK => ?_) AllReadyH.nil
          go_simp
          (have r0 := R0.out; have r2 := R2.out)
          refine hK.out _ _ ?_ (fun hHeld => ?_)
          · ((try dsimp only); refine ⟨?_, ?_⟩ <;> (first | assumption | (go_keep; done)))
          clear hK K
          (try simp only [Act.put, List.setIfInBounds_toArray, List.set_cons_zero, List.set_cons_succ])
          refine wpAnyH_done (by kernel_rfl) ?_ _
          refine NoPanic.normal ?_
          go_wp2_with fail
          go_roundw
          case rel => exact ⟨k + 1, by omega, by go_num, HPUT.out.1, HPUT.out.2⟩
          case measure => simp [intOf]; omega
        · obtain rfl : k = h.len := by omega
          have hrk' : RowIs kByte base wr h (marksG kByte h.n h.len) := by
            have e : xs.drop (h.len * kByte.q) = [] := List.drop_eq_nil_of_le (by rw [HXL.out]; exact Nat.le_refl _)
            rwa [e, List.append_nil] at hrk
          have hother : ∀ (i : Nat) (h2 : Hb) (ys : List Value), i ≠ j → (H 1)[i]? = some h2 → RowIs kByte base w5 h2 ys → RowIs kByte base wr h2 ys := fun i h2 ys hij hi2 hr => hr.keep hkk (fun x hx hm => HF.out.unlike j i h h2 HH.out hi2 (by omega) x hm hx)
          have hdone2 : ∀ (i : Nat) (h2 : Hb), i < j + 1 → (H 1)[i]? = some h2 → RowIs kByte base wr h2 (marksG kByte h2.n h2.len) := fun i h2 hi hi2 => by
            rcases Nat.lt_or_ge i j with hij | hij
            · exact hother i h2 _ (by omega) hi2 (HDONE.out i h2 hij hi2)
            · obtain rfl : i = j := by omega
              rw [HH.out] at hi2
              injection hi2 with hi2
              subst hi2
              exact hrk'
          have htodo2 : ∀ (i : Nat) (h2 : Hb), j + 1 ≤ i → (H 1)[i]? = some h2 → ∃ cs, RowIs kByte base wr h2 cs := fun i h2 hi hi2 => by
            obtain ⟨ys, hys⟩ := HTODO.out i h2 (by omega) hi2
            exact ⟨ys, hother i h2 _ (by omega) hi2 hys⟩
          have hkp2 : Keeps (ByTy base 5 w) w wr := HKP.out.trans (hkk.mono (fun x hx => (HTY.out j h HH.out x hx).2))
          have HD2 := Lib.hid hdone2
          have HT2 := Lib.hid htodo2
          have HKP2 := Lib.hid hkp2
          clear hrk hrk' hkk hkq hother hdone2 htodo2 hkp2
          go_wp2_with fail
          go_roundw
          case rel => exact ⟨j + 1, by omega, by go_num, HD2.out, HT2.out, HKP2.out⟩
          case measure => simp [intOf]; omega
    · obtain rfl : j = N := by omega
      obtain ⟨AS, cS, hB1, _⟩ := hbk.cell (k := 1) (by omega) (by omega)
      rw [HN.out] at hB1
      have HD := Lib.hid (fun (i : Nat) (h : Hb) (hi : (H 1)[i]? = some h) => hdone i h (by have := (List.getElem?_eq_some_iff.1 hi).1; have := HN.out; omega) hi)
      have HKP := Lib.hid hkp
      clear hbk hdone htodo hkp
      go_wp2_with fail
      go_end0
      exact ⟨rfl, HD.out, HKP.out⟩
end Go.Proofs.YtgecfcdafbedaaaGreatDoor
