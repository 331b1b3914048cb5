/- The walks over params.twin, params.twins: the same pieces, each body in a block of its own, in a row with room for one more. -/
import Derived.Test.YtadpgodmkodgdaaXRGuidesRoom26
import Derived.Test.YtadpgodmkodgdaaXRGuidesRoom22
namespace Go.Proofs.Ytadpgodmkodgdaa
open Go.RowKit
set_option linter.unusedSimpArgs false
set_option linter.unusedVariables false

theorem size_param : (Try.prog.info? 69).map (·.size) = some 2 := by kernel_rfl
theorem info_paramH : (Try.prog.info? 69).map (fun i => (i.zero, i.size, i.bytes)) = some (some (.agg #[.int .u16 0, .slice none 0 0]), 2, 32) := by kernel_rfl
theorem splice_end {α : Type} (L R ys : List α) (o : Nat) (ho : L.length = o) : splice (L ++ R) o ys = L ++ ys ++ R.drop ys.length := by
  subst ho
  simp [splice, List.drop_append]

set_option maxRecDepth 100000 in
set_option maxHeartbeats 1000000 in
theorem twin1_any (t : Int) (A : Option Addr) (n c : Nat) (body : List Int) (w : World) (r : Rd w .u8 A n body) (l : n ≤ c) (hz : A = none → c = 0) :
    Calls Try.prog 26 #[.agg #[.int .u16 t, .slice A n c]] w fun e w' => ∃ B, e = .returned (.agg #[.int .u16 t, .slice B n n]) ∧ RowG 5 1 w.heap.size w' (.slice B n n) n (body.map (Value.int .u8)) ∧ Below w.heap.size w w' := by
  have hk1 : Blk ((w.alloc (.cells #[.int .u16 t, .slice A n c] 69)).alloc (.cells #[.int .u16 0, .slice none 0 0] 69)) w.heap.size 69 [.int .u16 t, .slice A n c] := (Blk.new w 69 [.int .u16 t, .slice A n c]).alloc _
  have hk2 : Blk ((w.alloc (.cells #[.int .u16 t, .slice A n c] 69)).alloc (.cells #[.int .u16 0, .slice none 0 0] 69)) (w.heap.size + 1) 69 [.int .u16 0, .slice none 0 0] := by
    have := Blk.new (w.alloc (.cells #[.int .u16 t, .slice A n c] 69)) 69 [.int .u16 0, .slice none 0 0]
    rwa [World.size_alloc] at this
  have hB : Below w.heap.size w ((w.alloc (.cells #[.int .u16 t, .slice A n c] 69)).alloc (.cells #[.int .u16 0, .slice none 0 0] 69)) := ((Below.refl _ _).alloc (Nat.le_refl _) _).alloc (by simp) _
  obtain ⟨w2, hw2⟩ : ∃ w2, (w.alloc (.cells #[.int .u16 t, .slice A n c] 69)).alloc (.cells #[.int .u16 0, .slice none 0 0] 69) = w2 := ⟨_, rfl⟩
  rw [hw2] at hk1 hk2 hB
  have HW2 := Lib.hid hw2
  have hcl := clone_any A n c body w2 (r.below hB) l hz
  have HCL := Lib.hid hcl
  have HK1 := Lib.hid hk1
  have HK2 := Lib.hid hk2
  have HB := Lib.hid hB
  have c0 : w2.cell? ⟨w.heap.size, 0, none⟩ = some (.int .u16 t) := hk1.cell 0
  have c1 : w2.cell? ⟨w.heap.size, 1, none⟩ = some (.slice A n c) := hk1.cell 1
  clear hw2 hk1 hk2 hB hcl r
  go_enter Try.func26, Try.ntmps26
  go_wp2_with fail
  rw [HW2.out]
  clear HW2
  obtain ⟨P, hP⟩ : ∃ P, w.heap.size = P := ⟨_, rfl⟩
  have hle0 : P ≤ w2.heap.size := by rw [← hP]; exact HB.out.size
  rw [hP] at HK1 HK2 HB c0 c1 ⊢
  have HP := Lib.hid hP
  clear hP
  go_wp2_with fail
  refine HCL.out.mono ?_; rintro e w3 ⟨B, cb, rfl, hle, hown, hBn, hB3⟩
  have hk3 := HK1.out.below hB3 HK1.out.lt
  have hk4 := HK2.out.below hB3 HK2.out.lt
  have hb3 := HB.out.trans (hB3.mono hle0)
  have hrow : RowG 5 1 P w3 (.slice B n n) n (body.map (Value.int .u8)) := ⟨B, n, cb, rfl, Nat.le_refl _, hle, own_lower hown hle0⟩
  have d0 : w3.cell? ⟨P, 0, none⟩ = some (.int .u16 t) := hk3.cell 0
  have d1 : w3.cell? ⟨P, 1, none⟩ = some (.slice A n c) := hk3.cell 1
  have f1 : w3.frozen? ⟨P, 1, none⟩ = false := hk3.free 1
  have g0 : w3.cell? ⟨P + 1, 0, none⟩ = some (.int .u16 0) := hk4.cell 0
  have g1 : w3.cell? ⟨P + 1, 1, none⟩ = some (.slice none 0 0) := hk4.cell 1
  have g2 : w3.frozen? ⟨P + 1, 0, none⟩ = false := hk4.free 0
  have g3 : w3.frozen? ⟨P + 1, 1, none⟩ = false := hk4.free 1
  have hkf : Blk (((w3.setCell ⟨P, 1, none⟩ (.slice B n n)).setCell ⟨P + 1, 0, none⟩ (.int .u16 t)).setCell ⟨P + 1, 1, none⟩ (.slice B n n)) (P + 1) 69 [.int .u16 t, .slice B n n] :=
    ((hk4.keep (Keeps.set1 w3 ⟨P, 1, none⟩ (.slice B n n)) (by simp)).put 0 (.int .u16 t)).put 1 (.slice B n n)
  have hkk : Keeps (fun i => P ≤ i ∧ (i = P ∨ i = P + 1)) w3 (((w3.setCell ⟨P, 1, none⟩ (.slice B n n)).setCell ⟨P + 1, 0, none⟩ (.int .u16 t)).setCell ⟨P + 1, 1, none⟩ (.slice B n n)) :=
    (((Keeps.refl _ w3).setCell (.inl ⟨Nat.le_refl _, .inl rfl⟩) _).setCell (.inl ⟨Nat.le_succ _, .inr rfl⟩) _).setCell (.inl ⟨Nat.le_succ _, .inr rfl⟩) _
  have hrowf := hrow.keep hkk (fun k hk2 hm => by
    obtain ⟨_, _, cur, h2⟩ := hrow.ty hk2
    rcases hm.2 with rfl | rfl
    · exact absurd (ty_one h2 hk3) (by decide)
    · exact absurd (ty_one h2 hk4) (by decide))
  have hbf := below_keeps hb3 hkk (by rw [HP.out]; exact Nat.le_refl _) (fun i hi => hi.1)
  have HKF := Lib.hid hkf
  have HROW := Lib.hid hrowf
  have HBF := Lib.hid hbf
  have hcp := clip_all B n cb w3 hle
  have HCP := Lib.hid hcp
  clear hk3 hk4 hb3 hrow hcp hle hown hBn hB3 c0 c1 HCL hkf hkk hrowf hbf
  go_wp2_with fail
  refine HCP.out.mono ?_; rintro e w4 ⟨rfl, rfl⟩
  go_wp2_with fail
  refine bodyPost_ret (results_cell_row rfl _ _ (P + 1) _ _ _ _ rfl HKF.out Try.underlying69 rfl (by kernel_rfl)) rfl ?_
  rw [HP.out]
  exact ⟨B, rfl, HROW.out, HBF.out⟩

set_option maxRecDepth 100000 in
set_option maxHeartbeats 2000000 in
theorem twins_any (A : Option Addr) (n c : Nat) (ps : List Piece) (w : World) (hps : Ps w A n ps) (hn : n < 1099511627776) :
    Calls Try.prog 64 #[.slice A n c] w fun e w' => ∃ hs rest, e = .returned (.slice (some ⟨w.heap.size, 0, none⟩) n (n + 1)) ∧ hs.map (·.p) = ps ∧ rest.length = 2 ∧ HdsIn w.heap.size w' hs ∧ Blk w' w.heap.size 69 (hcells hs ++ rest) ∧ Below w.heap.size w w' := by
  have hl := hps.len
  obtain ⟨i0, hi, hzz⟩ := Option.map_eq_some_iff.1 info_paramH
  simp only [Prod.mk.injEq] at hzz
  obtain ⟨hz0, hz1, hz2⟩ := hzz
  obtain ⟨w1, hmk, hown, hg⟩ := run_make_own (P := Try.prog) w w.heap.size 43 69 i0 (.agg #[.int .u16 0, .slice none 0 0]) 2 Try.underlying43 hi hz0 hz1 .i64 .i64 (n + 1) (by rw [hz2]; omega) (by unfold maxLen; omega) (Nat.le_refl _)
  have hB1 : Below w.heap.size w w1 := ⟨hg.os, hg.tape, hg.output, hg.size, fun i hi => hg.block i hi (by simp)⟩
  obtain ⟨G, hG⟩ : ∃ G, w.heap.size = G := ⟨_, rfl⟩
  have hst : ∃ rest, rest.length = (n + 1 - 0) * 2 ∧ Blk w1 G 69 (hcells [] ++ rest) := by
    rcases hown.2 with ⟨e, _⟩ | ⟨g, cap, cur, e, hb, hh, hc, hm, hs, _⟩
    · cases e
    · injection e with e1 _ e3
      injection e1 with e1
      injection e1 with e1 _ _
      subst e1; subst e3
      refine ⟨cur.toList, by simpa using hs, ?_⟩
      rw [hcells_nil, List.nil_append, ← hG]
      simpa [Blk] using hh
  have HST := Lib.hid hst
  have HB := Lib.hid hB1
  have HPS := Lib.hid hps
  have HG := Lib.hid hG
  rw [hG] at hmk
  clear hst hown hg hi hz0 hz1 hz2 hB1 hps hG
  have e1 : ((n + 1 : Nat) : Int) = (n : Int) + 1 := by omega
  rw [e1] at hmk
  go_enter Try.func64, Try.ntmps64
  go_wp2_with fail
  go_loopw [3, 12] (fun t i wr => ∃ (k : Nat) (hs : List Hd) (rest : List Value), k ≤ n ∧ i = .int .i64 k ∧ t = .slice (some ⟨G, 0, none⟩) k (n + 1) ∧ hs.map (·.p) = ps.take k ∧ rest.length = (n + 1 - k) * 2 ∧ HdsIn G wr hs ∧ Blk wr G 69 (hcells hs ++ rest) ∧ Below w.heap.size w wr) (fun _ i _ => n - (intOf i).toNat)
  case atStart =>
    obtain ⟨rest, h1, h2⟩ := HST.out
    exact ⟨0, [], rest, Nat.zero_le _, rfl, rfl, by simp, h1, HdsIn.nil, h2, HB.out⟩
  case round =>
    obtain ⟨k, hs, rest, hk, rfl, rfl, hmp, hrest, hin, hblk, hB⟩ := hrel
    have hsl : hs.length = k := by
      have := congrArg List.length hmp
      rw [List.length_map, List.length_take, hl] at this
      omega
    by_cases hlt : k < n
    · obtain ⟨b, off, rfl, hb, hc⟩ := (HPS.out.below hB).row (by omega)
      obtain ⟨t, body, B1, m1, d1, h1, h2, h3, h4, h5, h6, h7⟩ := hc k hlt
      obtain rfl : body.length = m1 := h5.len
      have htw : ∀ W, Below wr.heap.size wr W → Calls Try.prog 26 #[.agg #[.int .u16 t, .slice B1 body.length d1]] W fun e w' => ∃ B, e = .returned (.agg #[.int .u16 t, .slice B body.length body.length]) ∧ RowG 5 1 W.heap.size w' (.slice B body.length body.length) body.length (body.map (Value.int .u8)) ∧ Below W.heap.size W w' := fun W hW => twin1_any t B1 body.length d1 body W (h5.below hW) h6 h7
      have htk : ps.take (k + 1) = ps.take k ++ [(t, body)] := by
        have := (List.getElem?_eq_some_iff.1 h1)
        rw [List.take_succ_eq_append_getElem this.1, this.2]
      have i0 : (0 : Int) ≤ (k : Int) := by omega
      have i1 : (k : Int) < (n : Int) := by omega
      have HTK := Lib.hid htk
      have HBB := Lib.hid hB
      have HTW := Lib.hid htw
      have HMP := Lib.hid hmp
      have HREST := Lib.hid hrest
      have HIN := Lib.hid hin
      have HBLK := Lib.hid hblk
      have HSL := Lib.hid hsl
      clear htk hB hc hmk htw h5 h1 h7 hmp hrest hin hblk hsl
      go_wp2_with fail
      have HBN := Lib.hid (new_belowB wr (.cells #[.int .u16 t, .slice B1 body.length d1] 69))
      refine (HTW.out _ HBN.out).mono ?_; rintro e w2 ⟨B, rfl, hrow, hB2⟩
      have hBt : Below wr.heap.size wr w2 := HBN.out.trans (hB2.mono HBN.out.size)
      have hkb := HBLK.out.below hBt HBLK.out.lt
      have hfit : k * 2 + 2 ≤ (hcells hs ++ rest).length := by
        rw [List.length_append, hcells_length, HSL.out, HREST.out]; omega
      have hroom : k + 1 ≤ n + 1 := by omega
      have HFIT := Lib.hid hfit
      have HKB : Hid (∀ o, Blk (w2.alloc o) G 69 (hcells hs ++ rest)) := Lib.hid (fun o => hkb.alloc o)
      have HIN2 := Lib.hid (HIN.out.below hBt)
      have HROW := Lib.hid hrow
      have HBT := Lib.hid hBt
      have HROOM := Lib.hid hroom
      clear hrow hB2 hBt hkb hfit hroom HTW
      go_wp2_with (at_builtin; refine append_room_el rfl _ _ 43 69 2 rfl Try.underlying43 size_param G k (n + 1) (hcells hs ++ rest) [.int .u16 t, .slice B body.length body.length] w2.heap.size rfl rfl rfl (by simp [Value.oneCell']) (HKB.out _) (Blk.new w2 69 [.int .u16 t, .slice B body.length body.length]) HROOM.out HFIT.out ?_; intro w3 hb3 hk3; have HK3 := Lib.hid hk3; clear hk3)
      have hb3 := hb3.out
      rw [splice_end (hcells hs) rest _ (k * 2) (by rw [hcells_length, HSL.out])] at hb3
      have HB3 := Lib.hid hb3
      clear hb3
      go_roundw
      case rel =>
        have hk3 := HK3.out
        have hg2 : Blk w2 G 69 (hcells hs ++ rest) := HBLK.out.below HBT.out HBLK.out.lt
        have hin3 : HdsIn G w3 hs := ((HIN2.out.below (new_belowB w2 _)).keepP hk3 (HKB.out _))
        have hr3 : RowG 5 1 G w3 (.slice B body.length body.length) body.length (body.map (Value.int .u8)) := by
          have hle : G ≤ (wr.alloc (.cells #[.int .u16 t, .slice B1 body.length d1] 69)).heap.size := by
            have := HBB.out.size
            have := HG.out
            simp; omega
          have h1 := (HROW.out.lower hle).below (new_belowB w2 (.cells #[.int .u16 t, .slice B body.length body.length] 69))
          refine h1.keep hk3 (fun k hk2 e => ?_)
          subst e
          obtain ⟨_, _, cur, h2⟩ := h1.ty hk2
          exact absurd (ty_one h2 (HKB.out _)) (by decide)
        have hap : ∀ y ∈ hs ++ [], Ap ⟨(t, body), B, body.length⟩ y := fun y hy g hg hy2 => by
          rw [List.append_nil] at hy
          have h1 := HIN.out.blk hy hy2
          have h2 := (HROW.out.ty (k := g) (by simp only at hg; rw [hg]; rfl)).1
          simp at h2; omega
        refine ⟨k + 1, hs ++ [⟨(t, body), B, body.length⟩], rest.drop 2, by omega, by go_num, by go_num, ?_, ?_, ?_, ?_, ?_⟩
        · rw [List.map_append, HMP.out, HTK.out]; rfl
        · rw [List.length_drop, HREST.out]; omega
        · exact HdsIn.mid (l := hs) (r := []) (x := ⟨(t, body), B, body.length⟩) (by rw [List.append_nil]; exact hin3) hr3 hap
        · rw [hcells_append]; exact HB3.out
        · exact below_keeps (HBB.out.trans ((HBT.out.trans (new_belowB w2 _ |>.mono HBT.out.size)).mono HBB.out.size)) hk3 (Nat.le_refl _) (fun i hi => by rw [hi, HG.out]; exact Nat.le_refl _)
      case measure => simp [intOf]; omega
    · obtain rfl : k = n := by omega
      have htps : ps.take k = ps := List.take_of_length_le (by omega)
      rw [htps] at hmp
      have HMP := Lib.hid hmp
      have HREST := Lib.hid hrest
      have HIN := Lib.hid hin
      have HBLK := Lib.hid hblk
      have HBB := Lib.hid hB
      clear hmp hrest hin hblk hsl hB hmk htps
      go_wp2_with fail
      go_ret
      exact ⟨hs, rest, by rw [HG.out]; rfl, HMP.out, by rw [HREST.out]; omega, by rw [HG.out]; exact HIN.out, by rw [HG.out]; exact HBLK.out, HBB.out⟩
end Go.Proofs.Ytadpgodmkodgdaa
