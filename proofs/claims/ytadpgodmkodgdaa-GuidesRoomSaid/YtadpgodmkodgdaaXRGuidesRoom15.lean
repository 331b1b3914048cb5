/- The walk over SHA-256: the sum of a run's bytes. -/
import Derived.Test.YtadpgodmkodgdaaXRGuidesRoom14
namespace Go.Proofs.Ytadpgodmkodgdaa
open Go.RowKit
set_option linter.unusedSimpArgs false
set_option linter.unusedVariables false

def bitsI (n : Nat) : Int := IntKind.u64.wrap (8 * totI n)
def padL (n : Nat) : List Int := [128] ++ (List.replicate ((119 - n % 64) % 64) 0 ++ be (bitsI n) 8)
def stOf (e : List Int) : List Int := stN e (e.length / 64)
/-- SHA-256. -/
def shaOf (d : List Int) : List Int := flat (stOf (d ++ padL d.length)) 4
theorem be_bytes : ∀ (k : Nat) (n : Int), Bytes (be n k)
  | 0, n => fun x hx => by simp [be] at hx
  | k + 1, n => fun x hx => by
    rw [be, List.mem_append, List.mem_singleton] at hx
    rcases hx with h | h
    · exact be_bytes k _ x h
    · subst h; omega
theorem flat_bytes (l : List Int) (k : Nat) : Bytes (flat l k) := fun x hx => by
  rw [flat, List.mem_flatMap] at hx
  obtain ⟨y, _, h⟩ := hx
  exact be_bytes k y x h
theorem shaOf_length (d : List Int) : (shaOf d).length = 32 := by
  rw [shaOf, flat_length, stOf, (stN_eight _ _).len]
theorem shaOf_bytes (d : List Int) : Bytes (shaOf d) := flat_bytes _ _
theorem size_run : (Try.prog.info? 138).map (·.size) = some 67 := by kernel_rfl
def zRUN : List Value := .pointer none :: ((List.replicate 64 (0 : Int)).map (Value.int .u8) ++ [.int .i64 0, .int .u64 0])
theorem alloc_run (W : World) (o : Oper) (ho : o.op = .alloc 138) (ev : Operand → Value) : (execOp ev o).run Try.prog W = .ok (.value (.pointer (some ⟨W.heap.size, 0, none⟩))) (W.alloc (.cells zRUN.toArray 138)) := by
  obtain ⟨d, op, t, p, af, g⟩ := o
  simp only at ho
  subst ho
  kernel_rfl
theorem size_sumt : (Try.prog.info? 41).map (·.size) = some 32 := by kernel_rfl
def zSUMT : List Value := (List.replicate 32 (0 : Int)).map (Value.int .u8)
theorem alloc_sumt (W : World) (o : Oper) (ho : o.op = .alloc 41) (ev : Operand → Value) : (execOp ev o).run Try.prog W = .ok (.value (.pointer (some ⟨W.heap.size, 0, none⟩))) (W.alloc (.cells zSUMT.toArray 41)) := by
  obtain ⟨d, op, t, p, af, g⟩ := o
  simp only at ho
  subst ho
  kernel_rfl
theorem make_noughts (z : Nat) (hz : z < 64) (W : World) : (Instr.makeSlice 49 (.int .i64 (z : Int)) (.int .i64 (z : Int))).run Try.prog W = .ok (.slice (some ⟨W.heap.size, 0, none⟩) z z) (W.alloc (.cells ((List.replicate z (0 : Int)).map (Value.int .u8)).toArray 5)) := by
  have h := run_make_row' (P := Try.prog) 49 5 (.int .u8 0) 1 Try.underlying49 (by kernel_rfl) rfl .i64 .i64 z (by omega) (by omega) W
  rw [made_rep] at h
  rw [List.map_replicate]
  exact h
theorem sum_none (D : Nat) (W : World) : (Instr.sliceAt 41 (.pointer (some ⟨D, 0, none⟩)) none (some (.int .i64 0)) none).run Try.prog W = .ok (.slice (some ⟨D, 0, none⟩) 0 32) W := by kernel_rfl
theorem sum_all (D : Nat) (W : World) : (Instr.sliceAt 41 (.pointer (some ⟨D, 0, none⟩)) none none none).run Try.prog W = .ok (.slice (some ⟨D, 0, none⟩) 32 32) W := by kernel_rfl
theorem runC_one {H : Nat} {buf : List Int} {m : Nat} {tot : Int} : ∀ v ∈ runC H buf m tot, v.oneCell' = true := by
  intro v hv
  simp only [runC, List.mem_cons, List.mem_append, List.mem_map, List.not_mem_nil, or_false] at hv
  rcases hv with rfl | ⟨x, _, rfl⟩ | rfl | rfl <;> rfl
theorem parts_three {w : World} {G : Nat} {A1 A2 A3 : Option Addr} {n1 n2 n3 : Nat} {x1 x2 x3 : List Int} (t : TypeId) (h1 : RdX w G A1 n1 x1) (h2 : RdX w G A2 n2 x2) (h3 : RdX w G A3 n3 x3) (hG : G < w.heap.size) :
    PartsX (w.alloc (.cells #[.slice A1 n1 n1, .slice A2 n2 n2, .slice A3 n3 n3] t)) G (some ⟨w.heap.size, 0, none⟩) 3 [x1, x2, x3] := by
  have hk : Keeps (· = G) w (w.alloc (.cells #[.slice A1 n1 n1, .slice A2 n2 n2, .slice A3 n3 n3] t)) := (Keeps.refl _ w).alloc _
  have hb := Blk.new w t [.slice A1 n1 n1, .slice A2 n2 n2, .slice A3 n3 n3]
  refine ⟨rfl, by omega, fun _ => ⟨w.heap.size, 0, rfl, by simp, by omega, fun j p hj => ?_⟩⟩
  match j, hj with
  | 0, hj =>
    simp only [List.getElem?_cons_zero, Option.some.injEq] at hj
    subst hj; rw [h1.rd.len]; exact ⟨A1, n1, hb.cell 0, Nat.le_refl _, h1.keep hk⟩
  | 1, hj =>
    simp only [List.getElem?_cons_succ, List.getElem?_cons_zero, Option.some.injEq] at hj
    subst hj; rw [h2.rd.len]; exact ⟨A2, n2, hb.cell 1, Nat.le_refl _, h2.keep hk⟩
  | 2, hj =>
    simp only [List.getElem?_cons_succ, List.getElem?_cons_zero, Option.some.injEq] at hj
    subst hj; rw [h3.rd.len]; exact ⟨A3, n3, hb.cell 2, Nat.le_refl _, h3.keep hk⟩
  | j + 3, hj => simp at hj
def SumAns (d : List Int) (w : World) (e : Ending) (w' : World) : Prop := e = .returned (.agg ((shaOf d).map (Value.int .u8)).toArray) ∧ Below w.heap.size w w'
set_option maxRecDepth 100000 in
set_option maxHeartbeats 4000000 in
theorem sum_run (G H : Nat) (d : List Int) (w : World) (h : RunH w G H d (totI d.length)) (hne : H ≠ G) :
    Calls Try.prog 58 #[.pointer (some ⟨G, 0, none⟩)] w (SumAns d w) := by
  obtain ⟨⟨buf, hG, hb64, hbb, hbt⟩, hst⟩ := h
  have HALR := Lib.hid alloc_run
  have HZR : Hid (zRUN.length = 67) := Lib.hid rfl
  have HALS := Lib.hid alloc_sumt
  have HZS : Hid (zSUMT.length = 32) := Lib.hid rfl
  generalize zRUN = ZR at HALR HZR
  generalize zSUMT = ZS at HALS HZS
  have HUR := Lib.hid Try.underlying138
  have HUS := Lib.hid Try.underlying41
  obtain ⟨m, hm⟩ : ∃ m, d.length % 64 = m := ⟨_, rfl⟩
  have hm64 : m < 64 := by omega
  obtain ⟨z, hz⟩ : ∃ z, (119 - m) % 64 = z := ⟨_, rfl⟩
  have hz64 : z < 64 := by omega
  have hmk := make_noughts z hz64
  have hpad : padL d.length = [128] ++ (List.replicate z 0 ++ be (bitsI d.length) 8) := by rw [padL, hm, hz]
  have hbits : IntKind.u64.wrap (8 * totI d.length) = bitsI d.length := rfl
  have hbb0 : 0 ≤ bitsI d.length ∧ bitsI d.length ≤ 18446744073709551615 := by
    unfold bitsI
    simp [IntKind.wrap, IntKind.bits, IntKind.signed]
    omega
  obtain ⟨T, hT⟩ : ∃ T, totI d.length = T := ⟨_, rfl⟩
  obtain ⟨BT, hBT⟩ : ∃ T, bitsI d.length = T := ⟨_, rfl⟩
  rw [hBT] at hpad hbits hbb0
  rw [hT] at hG hbits
  obtain ⟨CR, hCR⟩ : ∃ C, runC H buf m T = C := ⟨_, rfl⟩
  rw [hm] at hG hbt
  have HCL : Hid (CR.length = 67) := Lib.hid (by rw [← hCR]; exact runC_length hb64)
  have HC1 : Hid (∀ v ∈ CR, v.oneCell' = true) := Lib.hid (by rw [← hCR]; exact runC_one)
  have HSR : Hid ((Try.prog.info? 138).map (·.size) = some CR.length) := Lib.hid (by rw [HCL.out]; exact size_run)
  have HSZ : Hid ((Try.prog.info? 41).map (·.size) = some ZS.length) := Lib.hid (by rw [HZS.out]; exact size_sumt)
  rw [hCR] at hG
  have d0 : CR[0]? = some (.pointer (some ⟨H, 0, none⟩)) := by rw [← hCR]; rfl
  have d65 : CR[65]? = some (.int .i64 (m : Int)) := by rw [← hCR]; exact runC_m hb64
  have d66 : CR[66]? = some (.int .u64 T) := by rw [← hCR]; exact runC_t hb64
  have HD0 := Lib.hid d0
  have HD65 := Lib.hid d65
  have HD66 := Lib.hid d66
  have HG := Lib.hid hG
  have HB64 := Lib.hid hb64
  have HBB := Lib.hid hbb
  have HBT := Lib.hid hbt
  have HST := Lib.hid hst
  have HM := Lib.hid hm
  have HT := Lib.hid hT
  have HCR := Lib.hid hCR
  have HPAD := Lib.hid hpad
  have HBI := Lib.hid hbits
  have HBI0 := Lib.hid hbb0
  have HNE := Lib.hid hne
  have HM64 := Lib.hid hm64
  have HZ := Lib.hid hz
  have HMK := Lib.hid hmk
  have c0 : w.cell? ⟨G, 0, none⟩ = some (.pointer (some ⟨H, 0, none⟩)) := (hG.cell 0).trans d0
  clear hG hb64 hbb hbt hst hm hT hCR hpad hbits hbb0 hne hm64 hz hz64 hmk d0 d65 d66 hBT
  go_enter Try.func58, Try.ntmps58
  go_upto_region 0 with fail
  rename_i K0 hK0
  refine wp_region_lit ?_
  refine wpList_allocT (o := ⟨some 2, .alloc 41, _, _, _, _⟩) rfl 41 ZS (fun W => HALS.out W _ rfl _) ?_; intro w1 HK1 HB1
  obtain ⟨D, hD⟩ : ∃ R, w.heap.size = R := ⟨_, rfl⟩
  rw [hD] at HK1 ⊢
  have HD := Lib.hid hD
  clear hD
  have HG1 := Lib.hid (HG.out.below HB1.out HG.out.lt)
  have HST1 := Lib.hid (HST.out.below HB1.out HST.out.lt)
  have c1 : w1.cell? ⟨G, 0, none⟩ = some (.pointer (some ⟨H, 0, none⟩)) := (HG1.out.cell 0).trans HD0.out
  go_upto_region 4 with (first
    | ((with_reducible refine wpList_isK (o := ⟨some 20, _, _, _, _, _⟩) ?_); refine wpList_loadT (o := ⟨some 20, _, _, _, _, _⟩) rfl 138 _ rfl G rfl 138 CR _ HG1.out HUR.out rfl HSR.out ?_)
    | ((with_reducible refine wpList_isK (o := ⟨some 3, _, _, _, _, _⟩) ?_); refine wpList_allocT (o := ⟨some 3, .alloc 138, _, _, _, _⟩) rfl 138 ZR (fun W => HALR.out W _ rfl _) ?_; intro w2 HK2 HB2; obtain ⟨E, hE⟩ : ∃ R, w1.heap.size = R := ⟨_, rfl⟩; have HSE := Lib.hid hE; rw [hE] at HK2 ⊢; clear hE)
    | ((with_reducible refine wpList_isK (o := ⟨none, .store 138 (.tmp 3) (.tmp 20), _, _, _, _⟩) ?_); refine wpList_over (o := ⟨none, .store 138 (.tmp 3) _, _, _, _, _⟩) rfl 138 _ _ rfl E CR ZR 138 rfl rfl HK2.out (by rw [HCL.out, HZR.out]) HSR.out HC1.out ?_; intro w3 HK3 hk3))
  have HBE := Lib.hid (show w.heap.size ≤ E by have := HSE.out; have := HB1.out.size; omega)
  have HB3 := Lib.hid (below_keeps (HB1.out.trans (HB2.out.mono HB1.out.size)) hk3.out (Nat.le_refl _) (fun i hi => by rw [hi]; exact HBE.out))
  have HDE := Lib.hid (show D < E by have := HSE.out; have := HK1.out.lt; omega)
  have HKD3 := Lib.hid ((HK1.out.below HB2.out HK1.out.lt).keep hk3.out (fun h => by have := HDE.out; omega))
  have HG3 := Lib.hid (HG.out.below HB3.out HG.out.lt)
  have HST3 := Lib.hid (HST.out.below HB3.out HST.out.lt)
  have HHE := Lib.hid (show H ≠ E by have := HST.out.lt; have := HBE.out; omega)
  have HWD := Lib.hid (show w.heap.size ≤ D by rw [HD.out]; exact Nat.le_refl _)
  clear HK2 HB2 hk3 HG1 HST1 c1 HK1 HB1
  have c65 : w3.cell? ⟨G, 65, none⟩ = some (.int .i64 (m : Int)) := (HG3.out.cell 65).trans HD65.out
  have c66 : w3.cell? ⟨G, 66, none⟩ = some (.int .u64 T) := (HG3.out.cell 66).trans HD66.out
  have ht1 : Int.tmod (119 - (m : Int)) 64 = (z : Int) := by
    have := HM64.out; have := HZ.out
    rw [Int.tmod_eq_emod_of_nonneg (by omega)]; omega
  have b0 : (0 : Int) ≤ (m : Int) ∧ (m : Int) < 64 := by have := HM64.out; omega
  have hsub : IntKind.i64.wrap (119 - (m : Int)) = 119 - (m : Int) := IntWalk.i64_in _ (by omega)
  have hmk := HMK.out
  go_upto_region 5 with fail
  obtain ⟨NZ, hNZ⟩ : ∃ R, w3.heap.size = R := ⟨_, rfl⟩
  have hrep : Array.replicate z (Value.int .u8 0) = ((List.replicate z (0 : Int)).map (Value.int .u8)).toArray := by simp
  have hbz : Blk (w3.alloc (.cells (Array.replicate z (Value.int .u8 0)) 5)) NZ 5 ((List.replicate z (0 : Int)).map (Value.int .u8)) := by rw [hrep, ← hNZ]; exact Blk.new w3 5 _
  have hb4 : Below w3.heap.size w3 (w3.alloc (.cells (Array.replicate z (Value.int .u8 0)) 5)) := (Below.refl _ _).alloc (Nat.le_refl _) _
  rw [hNZ]
  obtain ⟨w4, hw4⟩ : ∃ W, w3.alloc (Obj.cells (Array.replicate z (Value.int .u8 0)) 5) = W := ⟨_, rfl⟩
  rw [hw4] at hbz hb4 ⊢
  have HB4 := Lib.hid (HB3.out.trans (hb4.mono HB3.out.size))
  have HBZ := Lib.hid hbz
  have HEN := Lib.hid (show E < NZ by rw [← hNZ]; exact HK3.out.lt)
  have HK4 := Lib.hid (HK3.out.below hb4 HK3.out.lt)
  have HKD4 := Lib.hid (HKD3.out.below hb4 HKD3.out.lt)
  have HG4 := Lib.hid (HG3.out.below hb4 HG3.out.lt)
  have HST4 := Lib.hid (HST3.out.below hb4 HST3.out.lt)
  clear hrep hbz hb4 hw4 hNZ hmk ht1 hsub b0 c65 c66 HK3 HKD3 HG3 HST3 HB3
  have c66 : (w4.alloc (.cells #[.int .u8 128] 5)).cell? ⟨G, 66, none⟩ = some (.int .u64 T) := ((HG4.out.alloc _).cell 66).trans HD66.out
  have hbi := HBI.out
  have hpu := put_any none 0 0 [] BT 8 (w4.alloc (.cells #[.int .u8 128] 5)) (rd_nil _ _) (Nat.le_refl _) HBI0.out.1 HBI0.out.2
  have HPU := Lib.hid hpu
  clear hpu
  go_wp2_with fail
  refine HPU.out.mono ?_
  rintro e1 w5 ⟨PB, hPB, rfl, hkp, hb5⟩
  have hpm : putMany 8 = 8 := by decide
  rw [hpm, List.nil_append] at hkp ⊢
  rw [be_length]
  have HKP := Lib.hid hkp
  have HB48 := Lib.hid (show Below w4.heap.size w4 w5 from ((Below.refl _ w4).alloc (Nat.le_refl _) (.cells #[.int .u8 128] 5)).trans (hb5.mono (by simp)))
  obtain ⟨B1, hB1⟩ : ∃ R, w4.heap.size = R := ⟨_, rfl⟩
  have HB1' : Hid (Blk w5 B1 5 ([(128 : Int)].map (Value.int .u8))) := Lib.hid (by rw [← hB1]; exact (Blk.new w4 5 [.int .u8 128]).below hb5 (by simp))
  have HPBE := Lib.hid (show E < PB by have := HK4.out.lt; simp at hPB; omega)
  have HB1E := Lib.hid (show E < B1 by rw [← hB1]; exact HK4.out.lt)
  rw [hB1]
  clear hpm hkp hb5 hPB hbi c66 HPU hB1
  have hx1 : RdX w5 E (some ⟨B1, 0, none⟩) 1 [128] := ⟨rd_of_blk HB1'.out (by simp) rfl (by omega), fun _ => ⟨B1, 0, rfl, by have := HB1E.out; omega⟩⟩
  have hx2 : RdX w5 E (some ⟨NZ, 0, none⟩) z (List.replicate z 0) := ⟨rd_of_blk (HBZ.out.below HB48.out HBZ.out.lt) (fun x hx => by rw [List.mem_replicate] at hx; omega) (by simp) (by have := HZ.out; omega), fun _ => ⟨NZ, 0, rfl, by have := HEN.out; omega⟩⟩
  have hx3 : RdX w5 E (some ⟨PB, 0, none⟩) 8 (be BT 8) := ⟨rd_of_blk HKP.out (fun x hx => be_bytes 8 BT x hx) (be_length 8 BT) (by omega), fun _ => ⟨PB, 0, rfl, by have := HPBE.out; omega⟩⟩
  have HP3 := Lib.hid (parts_three (w := w5) 49 hx1 hx2 hx3 (show E < w5.heap.size by have := HB48.out.size; have := HK4.out.lt; omega))
  have HR5 : Hid (RunH w5 E H d (totI d.length)) := Lib.hid ⟨⟨buf, by rw [HM.out, HT.out, HCR.out]; exact HK4.out.below HB48.out HK4.out.lt, HB64.out, HBB.out, by rw [HM.out]; exact HBT.out⟩, HST4.out.below HB48.out HST4.out.lt⟩
  have HTK := Lib.hid (takes_any E H 3 3 _ d _ _ (HR5.out.keep (M := fun _ => False) ((Keeps.refl _ w5).alloc _) (fun h => h) (fun h => h)) HHE.out HP3.out)
  have HB5 := Lib.hid (HB4.out.trans (HB48.out.mono HB4.out.size))
  have HKD5 := Lib.hid (HKD4.out.below HB48.out HKD4.out.lt)
  clear hx1 hx2 hx3 HP3 HR5 HBZ HKP HK4 HG4 HST4 HB4 HKD4 HB1'
  go_wp2_with fail
  refine HTK.out.mono ?_
  rintro e1 w6 ⟨H6, rfl, hr6, hor6, hne6, hk6⟩
  have hfl : d ++ flatI [[128], List.replicate z 0, be BT 8] = d ++ padL d.length := by rw [HPAD.out]; simp [flatI]
  rw [hfl] at hr6
  have HB6 := Lib.hid (below_keeps (HB5.out.alloc HB5.out.size _) hk6 (Nat.le_refl _) (fun i hi => by rw [hi]; exact HBE.out))
  have HKD6 := Lib.hid ((HKD5.out.alloc _).keep hk6 (fun h => by have := HDE.out; omega))
  have HST6 := Lib.hid hr6.st
  have c6 : w6.cell? ⟨E, 0, none⟩ = some (.pointer (some ⟨H6, 0, none⟩)) := by obtain ⟨⟨b6, a6, _⟩, _⟩ := hr6; exact a6.cell 0
  obtain ⟨L, hL⟩ : ∃ L, stN (d ++ padL d.length) ((d ++ padL d.length).length / 64) = L := ⟨_, rfl⟩
  have HL8 : Hid (Eight L) := Lib.hid (by rw [← hL]; exact stN_eight _ _)
  have HSH : Hid (shaOf d = flat L 4) := Lib.hid (by rw [shaOf, stOf, hL])
  rw [hL] at HST6
  clear hfl hr6 hor6 hne6 hk6 hL HTK HB5 HKD5
  have hnone := sum_none D
  go_wp2_with fail
  clear hnone c6
  have HLT6 := Lib.hid HST6.out.lt
  go_loopw [5, 42] (fun b i wr => ∃ t c : Nat, ∃ A : Option Addr, t ≤ 8 ∧ i = .int .i64 (t : Int) ∧ b = .slice A (4 * t) c ∧ 4 * t ≤ c ∧ Rd wr .u8 A (4 * t) (flat (L.take t) 4) ∧ (0 < t → ∃ g off, A = some ⟨g, off, none⟩ ∧ g ≠ D) ∧ Below w6.heap.size w6 wr) (fun _ i _ => 8 - (intOf i).toNat)
  case atStart => exact ⟨0, 32, some ⟨D, 0, none⟩, by omega, rfl, rfl, by omega, ⟨rfl, by omega, fun x hx => by simp [flat] at hx, fun h => absurd h (by omega)⟩, fun h => absurd h (by omega), Below.refl _ _⟩
  case round =>
    obtain ⟨t, c, A, ht, rfl, rfl, hc, hr, hne, hb⟩ := hrel
    by_cases hlt : t < 8
    · obtain ⟨y, hy⟩ : ∃ y, L[t]? = some y := ⟨_, List.getElem?_eq_getElem (by rw [HL8.out.len]; exact hlt)⟩
      have hyu : U32 y := HL8.out.num y (List.mem_of_getElem? hy)
      have hy0 := hyu.1
      have hy1 := hyu.2
      have dy : wr.cell? ⟨H6, t, none⟩ = some (.int .u32 y) := ((HST6.out.below hb HST6.out.lt).cell t).trans (by rw [List.getElem?_map, hy]; rfl)
      have hflt : flat (L.take t) 4 ++ be y 4 = flat (L.take (t + 1)) 4 := by rw [List.take_add_one, hy, flat, flat, List.flatMap_append]; simp
      have hln : (flat (L.take (t + 1)) 4).length = 4 * (t + 1) := by rw [flat_length, List.length_take, HL8.out.len]; omega
      have hpu := put_any A (4 * t) c _ y 4 wr hr hc (by omega) (by omega)
      have hpm : putMany 4 = 4 := by decide
      rw [hpm, hflt] at hpu
      have HPU := Lib.hid hpu
      have HLN := Lib.hid hln
      have HBR := Lib.hid hb
      have HT8 := Lib.hid hlt
      have i0 : (0 : Int) ≤ (t : Int) := by omega
      have i1 : (t : Int) < 8 := by omega
      have HFB := Lib.hid (flat_bytes (L.take (t + 1)) 4)
      clear hpu hpm hflt hln hb hlt hy hyu hr hne hc ht
      go_wp2_with fail
      refine HPU.out.mono ?_
      rintro e1 w7 ⟨g, hg, rfl, hkg, hb7⟩
      have HKG := Lib.hid hkg
      have HGD := Lib.hid (show g ≠ D by have := HKD6.out.lt; have := HBR.out.size; omega)
      have HB7 := Lib.hid (HBR.out.trans (hb7.mono HBR.out.size))
      clear hkg hg hb7 HPU
      go_wp2_with fail
      go_roundw
      case rel => exact ⟨t + 1, 4 * (t + 1), some ⟨g, 0, none⟩, by have := HT8.out; omega, by go_num, by rw [HLN.out], Nat.le_refl _, rd_of_blk HKG.out HFB.out HLN.out (by have := HT8.out; omega), fun _ => ⟨g, 0, rfl, HGD.out⟩, HB7.out⟩
      case measure => simp [intOf]; have := HT8.out; omega
    · obtain rfl : t = 8 := by omega
      obtain ⟨g, off, rfl, hgd⟩ := hne (by omega)
      rw [List.take_of_length_le (by rw [HL8.out.len]; exact Nat.le_refl _), ← HSH.out] at hr
      have HKD7 := Lib.hid (HKD6.out.below hb HKD6.out.lt)
      have HB7 := Lib.hid (HB6.out.trans (hb.mono HB6.out.size))
      obtain ⟨b', off', e, hbl, hcell⟩ := hr.row (by omega)
      injection e with e
      injection e with e1 e2
      subst e1; subst e2
      have hsl := shaOf_length d
      have hsrc : ∀ j v, ((shaOf d).map (Value.int .u8))[j]? = some v → wr.cell? ((⟨g, off, none⟩ : Addr).add j) = some v := fun j v hv => by
        have hj : j < 32 := by have := (List.getElem?_eq_some_iff.1 hv).1; rwa [List.length_map, hsl] at this
        have ha : (⟨g, off, none⟩ : Addr).add j = ⟨g, off + j, none⟩ := by unfold Addr.add; split <;> simp_all
        rw [ha, hcell j hj, ← hv, List.getElem?_map, List.getElem?_eq_getElem (by rw [hsl]; exact hj)]
        rfl
      have hone : ∀ v ∈ (shaOf d).map (Value.int .u8), v.oneCell' = true := fun v hv => by obtain ⟨x, _, rfl⟩ := List.mem_map.1 hv; rfl
      obtain ⟨V, hV⟩ : ∃ V, (shaOf d).map (Value.int .u8) = V := ⟨_, rfl⟩
      have hvl : V.length = 32 := by rw [← hV, List.length_map, hsl]
      rw [hV] at hsrc hone
      have HSV : Hid ((Try.prog.info? 41).map (·.size) = some V.length) := Lib.hid (by rw [hvl]; exact size_sumt)
      have HVL := Lib.hid hvl
      have HVV := Lib.hid hV
      have HSRC := Lib.hid hsrc
      have HONE := Lib.hid hone
      have HRR := Lib.hid hr
      have hall := sum_all D
      clear hr hne hb hcell hsl hsrc hone hV hvl hgd hlt hc ht
      go_wp2_with (first
        | ((with_reducible refine wpList_isK (o := ⟨some 54, _, _, _, _, _⟩) ?_); refine wpList_copy (o := ⟨some 54, _, _, _, _, _⟩) rfl _ _ _ _ rfl 5 Try.underlying49 size_u8w (some ⟨D, 0, none⟩) (some ⟨g, off, none⟩) 32 32 (4 * 8) c rfl rfl D 0 ZS 41 HKD7.out V (by rw [HVL.out]; rfl) (fun _ => ⟨rfl, _, rfl, HSRC.out⟩) (by rw [HVL.out, HZS.out]; omega) HONE.out ?_; intro w8 hk8 hkk8; have HK8 : Hid (Blk w8 D 41 V) := Lib.hid (by have := hk8.out; rwa [splice_whole _ _ (by rw [HVL.out, HZS.out])] at this); have HB8 := Lib.hid (below_keeps HB7.out hkk8 (Nat.le_refl _) (fun i hi => by rw [hi]; exact HWD.out)); clear hk8 hkk8)
        | ((with_reducible refine wpList_isK (o := ⟨some 55, _, _, _, _, _⟩) ?_); refine wpList_loadT (o := ⟨some 55, _, _, _, _, _⟩) rfl 41 _ rfl D rfl 41 V _ HK8.out HUS.out rfl HSV.out ?_)
        | ((with_reducible refine wpList_isK (o := ⟨none, .store 41 (.tmp 2) (.tmp 55), _, _, _, _⟩) ?_); refine wpList_over (o := ⟨none, .store 41 (.tmp 2) _, _, _, _, _⟩) rfl 41 _ _ rfl D V V 41 rfl rfl HK8.out rfl HSV.out HONE.out ?_; intro w9 HK9 hk9; have HB9 := Lib.hid (below_keeps HB8.out hk9.out (Nat.le_refl _) (fun i hi => by rw [hi]; exact HWD.out))))
      refine bodyPost_ret (results_rowT rfl _ D _ _ _ rfl HK9.out HUS.out rfl HSV.out) rfl ?_
      exact ⟨by rw [HVV.out], HB9.out⟩
end Go.Proofs.Ytadpgodmkodgdaa
