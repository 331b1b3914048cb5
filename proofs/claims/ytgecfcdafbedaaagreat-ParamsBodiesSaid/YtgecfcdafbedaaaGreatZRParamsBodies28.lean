/- The walks over GetLong, GetSum, GetSig, GetPuzzle. (Printed by wip/mkbg.py.). -/
import Derived.Test.YtgecfcdafbedaaaGreatZRParamsBodies27
namespace Go.Proofs.YtgecfcdafbedaaaGreat
open Go.RowKit
set_option linter.unusedSimpArgs false
set_option linter.unusedVariables false

theorem puz_one {bs : List Int} : ∀ v ∈ puzC bs, v.oneCell' = true := fun v hv => by
  rcases List.mem_append.1 hv with h | h
  · simp at h; rcases h with rfl | rfl <;> rfl
  · exact one_ints v h
theorem exans_cells {C : Prop} {V Z : List Value} {k : Nat} {e : Ending} (h : ExAns C (.agg V.toArray) (.agg Z.toArray) e) (hV : V.length = k) (hZ : Z.length = k) (h1 : ∀ v ∈ V, v.oneCell' = true) (h2 : ∀ v ∈ Z, v.oneCell' = true) :
    ∃ (U : List Value) (E : Int), e = .returned (.tuple #[.agg U.toArray, .int .i64 E]) ∧ U.length = k ∧ (∀ v ∈ U, v.oneCell' = true) ∧ ExAns C (.agg V.toArray) (.agg Z.toArray) (.returned (.tuple #[.agg U.toArray, .int .i64 E])) := by
  rcases h with ⟨hc, rfl⟩ | ⟨hc, rfl⟩
  · exact ⟨V, 0, rfl, hV, h1, .inl ⟨hc, rfl⟩⟩
  · exact ⟨Z, 4, rfl, hZ, h2, .inr ⟨hc, rfl⟩⟩
theorem exans_to {C : Prop} {v v' z : Value} {e : Ending} (h : ExAns C v z e) (hv : C → v = v') : ExAns C v' z e := by
  rcases h with ⟨hc, he⟩ | h
  · exact .inl ⟨hc, by rw [← hv hc]; exact he⟩
  · exact .inr h
set_option maxRecDepth 100000 in
set_option maxHeartbeats 4000000 in
theorem getnum_any (A : Option Addr) (n c : Nat) (bs : List Int) (w : World) (r : Rd w .u8 A n bs) (l : n ≤ c) (hz : A = none → c = 0) :
    Calls Tryz.prog 16 #[.slice A n c] w fun e w' => ExAns (n = 32) (.agg (longC bs).toArray) (.agg zNUM.toArray) e ∧ Below w.heap.size w w' := by
  obtain ⟨S, hS⟩ : ∃ S, w.heap.size = S := ⟨_, rfl⟩
  have HS := Lib.hid hS
  have hex : ∀ W1, Below w.heap.size w W1 → Calls Tryz.prog 54 #[.slice A n c, .int .i64 (32 : Int), .func (.func 55) #[] #[], .slice none 0 0] W1 fun e w' => ExAns (n = 32) (.agg (longC bs).toArray) (.agg zNUM.toArray) e ∧ Below W1.heap.size W1 w' := fun W1 hB1 => by
    by_cases h : n = 32
    · subst h
      exact exnum_any A 32 c 32 (longC bs) W1 (by omega) (by omega) rfl one_ints (fun _ W hB0 => by
        have hB := hB1.trans (hB0.mono hB1.size)
        exact number_any A c bs W (r.below hB) l)
    · refine (exnum_any A n c 32 zNUM W1 r.big (by omega) rfl (by decide) (fun hn => absurd hn h)).mono fun e w' hh => ⟨exans_to hh.1 (fun hn => absurd hn h), hh.2⟩
  have hsz : (Tryz.prog.info? 31).map (·.size) = some zNUM.length := by kernel_rfl
  have hcell : ∀ e, ExAns (n = 32) (.agg (longC bs).toArray) (.agg zNUM.toArray) e → ∃ (U : List Value) (E : Int), e = .returned (.tuple #[.agg U.toArray, .int .i64 E]) ∧ U.length = zNUM.length ∧ (∀ v ∈ U, v.oneCell' = true) ∧ ExAns (n = 32) (.agg (longC bs).toArray) (.agg zNUM.toArray) (.returned (.tuple #[.agg U.toArray, .int .i64 E])) := fun e he => by
    by_cases h : n = 32
    · subst h
      exact exans_cells he (show (longC bs).length = 4 from rfl) rfl one_ints (by decide)
    · rcases he with ⟨hc, _⟩ | ⟨hc, rfl⟩
      · exact absurd hc h
      · exact ⟨zNUM, 4, rfl, rfl, by decide, .inr ⟨hc, rfl⟩⟩
  obtain ⟨G, hG⟩ : ∃ G : Ending → Prop, (fun e => ExAns (n = 32) (.agg (longC bs).toArray) (.agg zNUM.toArray) e) = G := ⟨_, rfl⟩
  have hg : ∀ e, ExAns (n = 32) (.agg (longC bs).toArray) (.agg zNUM.toArray) e = G e := fun e => congrFun hG e
  simp only [hg] at hex hcell ⊢
  clear hg hG
  have HEX := Lib.hid hex
  have HCELL := Lib.hid hcell
  have HU := Lib.hid Tryz.underlying31
  have HAL := Lib.hid alloc_num
  have HSZ := Lib.hid hsz
  generalize zNUM = Z at HAL HSZ HCELL
  clear hS hex hcell hsz r l hz
  go_enter Tryz.func16, Tryz.ntmps16
  go_upto_region 0 with fail
  refine wp_region_lit ?_
  refine wpList_allocT (o := ⟨some 2, .alloc 31, _, _, _, _⟩) rfl 31 Z (fun W => HAL.out W _ rfl _) ?_; intro w1 HK1 HB1
  rw [HS.out] at HK1 ⊢
  go_wp2_with fail
  refine (HEX.out _ HB1.out).mono ?_; rintro e w2 ⟨hans, hB2⟩
  obtain ⟨U, E, rfl, hUl, hU1, hUG⟩ := HCELL.out e hans
  have HUL := Lib.hid hUl
  have HU1 := Lib.hid hU1
  have HUG := Lib.hid hUG
  have HSU : Hid ((Tryz.prog.info? 31).map (·.size) = some U.length) := Lib.hid (by rw [hUl]; exact HSZ.out)
  have HK2 : Hid (Blk w2 S 31 Z) := Lib.hid (HK1.out.keep (Keeps.of_below (M := fun _ => False) hB2) (fun h => h))
  have HB2 := Lib.hid (HB1.out.trans (hB2.mono HB1.out.size))
  clear hans hB2 hUl hU1 hUG
  go_wp2_with (first | (refine wpList_over (o := ⟨none, .store 31 _ _, _, _, _, _⟩) rfl 31 _ _ rfl S U Z 31 rfl rfl HK2.out HUL.out HSU.out HU1.out ?_; intro w3 HK3 hk3; have HB3 := Lib.hid (below_keeps HB2.out hk3.out (Nat.le_refl _) (fun i hi => by rw [hi, HS.out]; exact Nat.le_refl _)); clear hk3))
  refine bodyPost_ret (results_row_tmp rfl _ _ S U _ rfl HK3.out HU.out rfl HSU.out) rfl ?_
  exact ⟨HUG.out, HB3.out⟩

set_option maxRecDepth 100000 in
set_option maxHeartbeats 4000000 in
theorem getsum_any (A : Option Addr) (n c : Nat) (bs : List Int) (w : World) (r : Rd w .u8 A n bs) (l : n ≤ c) (hz : A = none → c = 0) :
    Calls Tryz.prog 18 #[.slice A n c] w fun e w' => ExAns (n = 32) (.agg (bs.map (Value.int .u8)).toArray) (.agg zSum.toArray) e ∧ Below w.heap.size w w' := by
  obtain ⟨S, hS⟩ : ∃ S, w.heap.size = S := ⟨_, rfl⟩
  have HS := Lib.hid hS
  have hex : ∀ W1, Below w.heap.size w W1 → Calls Tryz.prog 57 #[.slice A n c, .int .i64 (32 : Int), .func (.func 52) #[] #[], .slice none 0 0] W1 fun e w' => ExAns (n = 32) (.agg (bs.map (Value.int .u8)).toArray) (.agg zSum.toArray) e ∧ Below W1.heap.size W1 w' := fun W1 hB1 => by
    by_cases h : n = 32
    · subst h
      exact exsum_any A 32 c 32 (bs.map (Value.int .u8)) W1 (by omega) (by omega) (by rw [List.length_map, r.len]) one_ints (fun _ W hB0 => by
        have hB := hB1.trans (hB0.mono hB1.size)
        exact sum_any A c bs W (r.below hB))
    · refine (exsum_any A n c 32 zSum W1 r.big (by omega) rfl (by decide) (fun hn => absurd hn h)).mono fun e w' hh => ⟨exans_to hh.1 (fun hn => absurd hn h), hh.2⟩
  have hsz : (Tryz.prog.info? 27).map (·.size) = some zSum.length := by kernel_rfl
  have hcell : ∀ e, ExAns (n = 32) (.agg (bs.map (Value.int .u8)).toArray) (.agg zSum.toArray) e → ∃ (U : List Value) (E : Int), e = .returned (.tuple #[.agg U.toArray, .int .i64 E]) ∧ U.length = zSum.length ∧ (∀ v ∈ U, v.oneCell' = true) ∧ ExAns (n = 32) (.agg (bs.map (Value.int .u8)).toArray) (.agg zSum.toArray) (.returned (.tuple #[.agg U.toArray, .int .i64 E])) := fun e he => by
    by_cases h : n = 32
    · subst h
      exact exans_cells he (show (bs.map (Value.int .u8)).length = 32 from (by rw [List.length_map, r.len])) rfl one_ints (by decide)
    · rcases he with ⟨hc, _⟩ | ⟨hc, rfl⟩
      · exact absurd hc h
      · exact ⟨zSum, 4, rfl, rfl, by decide, .inr ⟨hc, rfl⟩⟩
  obtain ⟨G, hG⟩ : ∃ G : Ending → Prop, (fun e => ExAns (n = 32) (.agg (bs.map (Value.int .u8)).toArray) (.agg zSum.toArray) e) = G := ⟨_, rfl⟩
  have hg : ∀ e, ExAns (n = 32) (.agg (bs.map (Value.int .u8)).toArray) (.agg zSum.toArray) e = G e := fun e => congrFun hG e
  simp only [hg] at hex hcell ⊢
  clear hg hG
  have HEX := Lib.hid hex
  have HCELL := Lib.hid hcell
  have HU := Lib.hid Tryz.underlying27
  have HAL := Lib.hid alloc_sum
  have HSZ := Lib.hid hsz
  generalize zSum = Z at HAL HSZ HCELL
  clear hS hex hcell hsz r l hz
  go_enter Tryz.func18, Tryz.ntmps18
  go_upto_region 0 with fail
  refine wp_region_lit ?_
  refine wpList_allocT (o := ⟨some 2, .alloc 27, _, _, _, _⟩) rfl 27 Z (fun W => HAL.out W _ rfl _) ?_; intro w1 HK1 HB1
  rw [HS.out] at HK1 ⊢
  go_wp2_with fail
  refine (HEX.out _ HB1.out).mono ?_; rintro e w2 ⟨hans, hB2⟩
  obtain ⟨U, E, rfl, hUl, hU1, hUG⟩ := HCELL.out e hans
  have HUL := Lib.hid hUl
  have HU1 := Lib.hid hU1
  have HUG := Lib.hid hUG
  have HSU : Hid ((Tryz.prog.info? 27).map (·.size) = some U.length) := Lib.hid (by rw [hUl]; exact HSZ.out)
  have HK2 : Hid (Blk w2 S 27 Z) := Lib.hid (HK1.out.keep (Keeps.of_below (M := fun _ => False) hB2) (fun h => h))
  have HB2 := Lib.hid (HB1.out.trans (hB2.mono HB1.out.size))
  clear hans hB2 hUl hU1 hUG
  go_wp2_with (first | (refine wpList_over (o := ⟨none, .store 27 _ _, _, _, _, _⟩) rfl 27 _ _ rfl S U Z 27 rfl rfl HK2.out HUL.out HSU.out HU1.out ?_; intro w3 HK3 hk3; have HB3 := Lib.hid (below_keeps HB2.out hk3.out (Nat.le_refl _) (fun i hi => by rw [hi, HS.out]; exact Nat.le_refl _)); clear hk3))
  refine bodyPost_ret (results_row_tmp rfl _ _ S U _ rfl HK3.out HU.out rfl HSU.out) rfl ?_
  exact ⟨HUG.out, HB3.out⟩

set_option maxRecDepth 100000 in
set_option maxHeartbeats 4000000 in
theorem getsig_any (A : Option Addr) (n c : Nat) (bs : List Int) (w : World) (r : Rd w .u8 A n bs) (l : n ≤ c) (hz : A = none → c = 0) :
    Calls Tryz.prog 20 #[.slice A n c] w fun e w' => ExAns (n = 64) (.agg (sigC bs).toArray) (.agg zSIG.toArray) e ∧ Below w.heap.size w w' := by
  obtain ⟨S, hS⟩ : ∃ S, w.heap.size = S := ⟨_, rfl⟩
  have HS := Lib.hid hS
  have hex : ∀ W1, Below w.heap.size w W1 → Calls Tryz.prog 58 #[.slice A n c, .int .i64 (64 : Int), .func (.func 59) #[] #[], .slice none 0 0] W1 fun e w' => ExAns (n = 64) (.agg (sigC bs).toArray) (.agg zSIG.toArray) e ∧ Below W1.heap.size W1 w' := fun W1 hB1 => by
    by_cases h : n = 64
    · subst h
      exact exsig_any A 64 c 64 (sigC bs) W1 (by omega) (by omega) rfl (fun v hv => by rcases List.mem_append.1 hv with h | h <;> exact one_ints v h) (fun _ W hB0 => by
        have hB := hB1.trans (hB0.mono hB1.size)
        exact rdsig_any A c bs W (r.below hB) l hz)
    · refine (exsig_any A n c 64 zSIG W1 r.big (by omega) rfl (by decide) (fun hn => absurd hn h)).mono fun e w' hh => ⟨exans_to hh.1 (fun hn => absurd hn h), hh.2⟩
  have hsz : (Tryz.prog.info? 33).map (·.size) = some zSIG.length := by kernel_rfl
  have hcell : ∀ e, ExAns (n = 64) (.agg (sigC bs).toArray) (.agg zSIG.toArray) e → ∃ (U : List Value) (E : Int), e = .returned (.tuple #[.agg U.toArray, .int .i64 E]) ∧ U.length = zSIG.length ∧ (∀ v ∈ U, v.oneCell' = true) ∧ ExAns (n = 64) (.agg (sigC bs).toArray) (.agg zSIG.toArray) (.returned (.tuple #[.agg U.toArray, .int .i64 E])) := fun e he => by
    by_cases h : n = 64
    · subst h
      exact exans_cells he (show (sigC bs).length = 8 from rfl) rfl (fun v hv => by rcases List.mem_append.1 hv with h | h <;> exact one_ints v h) (by decide)
    · rcases he with ⟨hc, _⟩ | ⟨hc, rfl⟩
      · exact absurd hc h
      · exact ⟨zSIG, 4, rfl, rfl, by decide, .inr ⟨hc, rfl⟩⟩
  obtain ⟨G, hG⟩ : ∃ G : Ending → Prop, (fun e => ExAns (n = 64) (.agg (sigC bs).toArray) (.agg zSIG.toArray) e) = G := ⟨_, rfl⟩
  have hg : ∀ e, ExAns (n = 64) (.agg (sigC bs).toArray) (.agg zSIG.toArray) e = G e := fun e => congrFun hG e
  simp only [hg] at hex hcell ⊢
  clear hg hG
  have HEX := Lib.hid hex
  have HCELL := Lib.hid hcell
  have HU := Lib.hid Tryz.underlying33
  have HAL := Lib.hid alloc_sig
  have HSZ := Lib.hid hsz
  generalize zSIG = Z at HAL HSZ HCELL
  clear hS hex hcell hsz r l hz
  go_enter Tryz.func20, Tryz.ntmps20
  go_upto_region 0 with fail
  refine wp_region_lit ?_
  refine wpList_allocT (o := ⟨some 2, .alloc 33, _, _, _, _⟩) rfl 33 Z (fun W => HAL.out W _ rfl _) ?_; intro w1 HK1 HB1
  rw [HS.out] at HK1 ⊢
  go_wp2_with fail
  refine (HEX.out _ HB1.out).mono ?_; rintro e w2 ⟨hans, hB2⟩
  obtain ⟨U, E, rfl, hUl, hU1, hUG⟩ := HCELL.out e hans
  have HUL := Lib.hid hUl
  have HU1 := Lib.hid hU1
  have HUG := Lib.hid hUG
  have HSU : Hid ((Tryz.prog.info? 33).map (·.size) = some U.length) := Lib.hid (by rw [hUl]; exact HSZ.out)
  have HK2 : Hid (Blk w2 S 33 Z) := Lib.hid (HK1.out.keep (Keeps.of_below (M := fun _ => False) hB2) (fun h => h))
  have HB2 := Lib.hid (HB1.out.trans (hB2.mono HB1.out.size))
  clear hans hB2 hUl hU1 hUG
  go_wp2_with (first | (refine wpList_over (o := ⟨none, .store 33 _ _, _, _, _, _⟩) rfl 33 _ _ rfl S U Z 33 rfl rfl HK2.out HUL.out HSU.out HU1.out ?_; intro w3 HK3 hk3; have HB3 := Lib.hid (below_keeps HB2.out hk3.out (Nat.le_refl _) (fun i hi => by rw [hi, HS.out]; exact Nat.le_refl _)); clear hk3))
  refine bodyPost_ret (results_row_tmp rfl _ _ S U _ rfl HK3.out HU.out rfl HSU.out) rfl ?_
  exact ⟨HUG.out, HB3.out⟩

set_option maxRecDepth 100000 in
set_option maxHeartbeats 4000000 in
theorem getpuz_any (A : Option Addr) (n c : Nat) (bs : List Int) (w : World) (r : Rd w .u8 A n bs) (l : n ≤ c) (hz : A = none → c = 0) :
    Calls Tryz.prog 10 #[.slice A n c] w fun e w' => ExAns (n = 41 ∧ decide (bs[0]?.getD 0 ≤ 12) = true) (.agg (puzC bs).toArray) (.agg zPUZ.toArray) e ∧ Below w.heap.size w w' := by
  obtain ⟨S, hS⟩ : ∃ S, w.heap.size = S := ⟨_, rfl⟩
  have HS := Lib.hid hS
  have hex : ∀ W1, Below w.heap.size w W1 → ∀ OK, W1.cell? ⟨OK, 0, none⟩ = some (.func (.func 48) #[] #[]) → Calls Tryz.prog 46 #[.slice A n c, .int .i64 (41 : Int), .func (.func 47) #[] #[], .slice (some ⟨OK, 0, none⟩) 1 1] W1 fun e w' => ExAns (n = 41 ∧ decide (bs[0]?.getD 0 ≤ 12) = true) (.agg (puzC bs).toArray) (.agg zPUZ.toArray) e ∧ Below W1.heap.size W1 w' := fun W1 hB1 OK hok => by
    by_cases h : n = 41
    · subst h
      exact expuz_any A 41 c 41 (decide (bs[0]?.getD 0 ≤ 12)) (puzC bs) W1 (by omega) (by omega) (by have := r.len; simp [puzC]; omega) puz_one OK hok (fun _ W hB0 => work_any A 41 c bs W (r.below (hB1.trans (hB0.mono hB1.size))) (by omega)) (fun _ W hB0 => by
        have hB := hB1.trans (hB0.mono hB1.size)
        exact rdpuz_any A 41 c bs W (r.below hB) (by omega) l hz)
    · refine (expuz_any A n c 41 (decide (bs[0]?.getD 0 ≤ 12)) zPUZ W1 r.big (by omega) rfl (by decide) OK hok (fun hn => absurd hn h) (fun hn => absurd hn.1 h)).mono fun e w' hh => ⟨exans_to hh.1 (fun hn => absurd hn.1 h), hh.2⟩
  have hsz : (Tryz.prog.info? 29).map (·.size) = some zPUZ.length := by kernel_rfl
  have hcell : ∀ e, ExAns (n = 41 ∧ decide (bs[0]?.getD 0 ≤ 12) = true) (.agg (puzC bs).toArray) (.agg zPUZ.toArray) e → ∃ (U : List Value) (E : Int), e = .returned (.tuple #[.agg U.toArray, .int .i64 E]) ∧ U.length = zPUZ.length ∧ (∀ v ∈ U, v.oneCell' = true) ∧ ExAns (n = 41 ∧ decide (bs[0]?.getD 0 ≤ 12) = true) (.agg (puzC bs).toArray) (.agg zPUZ.toArray) (.returned (.tuple #[.agg U.toArray, .int .i64 E])) := fun e he => by
    by_cases h : n = 41
    · subst h
      exact exans_cells he (show (puzC bs).length = 34 from (by have := r.len; simp [puzC]; omega)) rfl puz_one (by decide)
    · rcases he with ⟨hc, _⟩ | ⟨hc, rfl⟩
      · exact absurd hc.1 h
      · exact ⟨zPUZ, 4, rfl, rfl, by decide, .inr ⟨hc, rfl⟩⟩
  obtain ⟨G, hG⟩ : ∃ G : Ending → Prop, (fun e => ExAns (n = 41 ∧ decide (bs[0]?.getD 0 ≤ 12) = true) (.agg (puzC bs).toArray) (.agg zPUZ.toArray) e) = G := ⟨_, rfl⟩
  have hg : ∀ e, ExAns (n = 41 ∧ decide (bs[0]?.getD 0 ≤ 12) = true) (.agg (puzC bs).toArray) (.agg zPUZ.toArray) e = G e := fun e => congrFun hG e
  simp only [hg] at hex hcell ⊢
  clear hg hG
  have HEX := Lib.hid hex
  have HCELL := Lib.hid hcell
  have HU := Lib.hid Tryz.underlying29
  have HAL := Lib.hid alloc_puz
  have HSZ := Lib.hid hsz
  generalize zPUZ = Z at HAL HSZ HCELL
  clear hS hex hcell hsz r l hz
  go_enter Tryz.func10, Tryz.ntmps10
  go_upto_region 0 with fail
  refine wp_region_lit ?_
  refine wpList_allocT (o := ⟨some 2, .alloc 29, _, _, _, _⟩) rfl 29 Z (fun W => HAL.out W _ rfl _) ?_; intro w1 HK1 HB1
  rw [HS.out] at HK1 ⊢
  go_wp2_with fail
  have HBO : Hid (Below w.heap.size w (w1.alloc (.cells #[.func (.func 48) #[] #[]] 84))) := Lib.hid (HB1.out.alloc HB1.out.size _)
  refine (HEX.out _ HBO.out w1.heap.size (by simp)).mono ?_; rintro e w2 ⟨hans, hB2⟩
  obtain ⟨U, E, rfl, hUl, hU1, hUG⟩ := HCELL.out e hans
  have HUL := Lib.hid hUl
  have HU1 := Lib.hid hU1
  have HUG := Lib.hid hUG
  have HSU : Hid ((Tryz.prog.info? 29).map (·.size) = some U.length) := Lib.hid (by rw [hUl]; exact HSZ.out)
  have HK2 : Hid (Blk w2 S 29 Z) := Lib.hid ((HK1.out.alloc _).keep (Keeps.of_below (M := fun _ => False) hB2) (fun h => h))
  have HB2 := Lib.hid (HBO.out.trans (hB2.mono HBO.out.size))
  clear hans hB2 hUl hU1 hUG
  go_wp2_with (first | (refine wpList_over (o := ⟨none, .store 29 _ _, _, _, _, _⟩) rfl 29 _ _ rfl S U Z 29 rfl rfl HK2.out HUL.out HSU.out HU1.out ?_; intro w3 HK3 hk3; have HB3 := Lib.hid (below_keeps HB2.out hk3.out (Nat.le_refl _) (fun i hi => by rw [hi, HS.out]; exact Nat.le_refl _)); clear hk3))
  refine bodyPost_ret (results_row_tmp rfl _ _ S U _ rfl HK3.out HU.out rfl HSU.out) rfl ?_
  exact ⟨HUG.out, HB3.out⟩

end Go.Proofs.YtgecfcdafbedaaaGreat
