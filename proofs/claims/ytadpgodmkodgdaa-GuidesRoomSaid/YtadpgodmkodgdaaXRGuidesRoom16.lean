/- The walk over SHA-256 of bytes; a key taken against a byte; The walk over HMAC-SHA-256. -/
import Derived.Test.YtadpgodmkodgdaaXRGuidesRoom15
namespace Go.Proofs.Ytadpgodmkodgdaa
open Go.RowKit
set_option linter.unusedSimpArgs false
set_option linter.unusedVariables false

theorem rdX_new {w : World} {G : Nat} {A : Option Addr} {n : Nat} {xs : List Int} (h : Rd w .u8 A n xs) (hG : w.heap.size ≤ G) : RdX w G A n xs :=
  ⟨h, fun hn => by obtain ⟨b, off, e, hb, _⟩ := h.row hn; exact ⟨b, off, e, by omega⟩⟩
theorem RdX.below {w w' : World} {G : Nat} {A : Option Addr} {n : Nat} {xs : List Int} (h : RdX w G A n xs) (hb : Below w.heap.size w w') : RdX w' G A n xs := ⟨h.rd.below hb, h.ne⟩
theorem one_u8s (xs : List Int) : ∀ v ∈ xs.map (Value.int .u8), v.oneCell' = true := fun v hv => by obtain ⟨x, _, rfl⟩ := List.mem_map.1 hv; rfl
set_option maxRecDepth 100000 in
set_option maxHeartbeats 4000000 in
theorem of_any (A : Option Addr) (n c : Nat) (xs : List Int) (w : World) (hr : Rd w .u8 A n xs) (hc : n ≤ c) : Calls Try.prog 54 #[.slice A n c] w (SumAns xs w) := by
  have HALS := Lib.hid alloc_sumt
  have HZS : Hid (zSUMT.length = 32) := Lib.hid rfl
  generalize zSUMT = ZS at HALS HZS
  have HUS := Lib.hid Try.underlying41
  have HR := Lib.hid hr
  have HC := Lib.hid hc
  clear hr hc
  go_enter Try.func54, Try.ntmps54
  go_wp2_with ((with_reducible refine wpList_isK (o := ⟨some 2, _, _, _, _, _⟩) ?_); refine wpList_allocT (o := ⟨some 2, .alloc 41, _, _, _, _⟩) rfl 41 ZS (fun W => HALS.out W _ rfl _) ?_; intro w1 HK1 HB1; obtain ⟨D, hD⟩ : ∃ R, w.heap.size = R := ⟨_, rfl⟩; rw [hD] at HK1 ⊢; have HD := Lib.hid hD; clear hD)
  refine (new_run _).mono ?_
  rintro e1 w2 ⟨G, H, rfl, hr2, hG2, hH2, hne2, hb2⟩
  have hx2 : RdX w2 G A n xs := (rdX_new (HR.out.below HB1.out) hG2).below hb2
  have hGl : G < w2.heap.size := by obtain ⟨⟨buf, a, _⟩, _⟩ := hr2; exact a.lt
  have hp := parts_one (w := w2) 49 hx2 HC.out hGl
  have ht := takes_any G H 1 1 _ [] [xs] _ (hr2.keep (M := fun _ => False) ((Keeps.refl _ w2).alloc (.cells #[.slice A n c] 49)) (fun h => h) (fun h => h)) hne2 hp
  have hf : ([] : List Int) ++ flatI [xs] = xs := by simp [flatI]
  have HT := Lib.hid ht
  have HF := Lib.hid hf
  have HB2 := Lib.hid (HB1.out.trans (hb2.mono HB1.out.size))
  have HK2 := Lib.hid (HK1.out.below hb2 HK1.out.lt)
  have HGW := Lib.hid (show w.heap.size ≤ G by have := HB1.out.size; omega)
  have HDG := Lib.hid (show D ≠ G by have := HK1.out.lt; omega)
  clear ht hf hp hx2 hr2 hG2 hH2 hne2 hb2 hGl
  go_wp2_with fail
  refine HT.out.mono ?_
  rintro e1 w3 ⟨H3, rfl, hr3, hor3, hne3, hk3⟩
  rw [HF.out] at hr3
  have HR3 := Lib.hid hr3
  have HNE3 := Lib.hid hne3
  have HB3 := Lib.hid (below_keeps (HB2.out.alloc HB2.out.size _) hk3 (Nat.le_refl _) (fun i hi => by rw [hi]; exact HGW.out))
  have HK3 := Lib.hid ((HK2.out.alloc _).keep hk3 (fun h => HDG.out h))
  clear hr3 hor3 hne3 hk3 HT
  go_wp2_with fail
  refine (sum_run G H3 xs w3 HR3.out HNE3.out).mono ?_
  rintro e1 w4 ⟨rfl, hb4⟩
  obtain ⟨V, hV⟩ : ∃ V, (shaOf xs).map (Value.int .u8) = V := ⟨_, rfl⟩
  have HVV := Lib.hid hV
  have HVL : Hid (V.length = 32) := Lib.hid (by rw [← hV, List.length_map, shaOf_length])
  have HONE : Hid (∀ v ∈ V, v.oneCell' = true) := Lib.hid (by rw [← hV]; exact one_u8s _)
  have HSV : Hid ((Try.prog.info? 41).map (·.size) = some V.length) := Lib.hid (by rw [HVL.out]; exact size_sumt)
  rw [hV]
  have HK4 := Lib.hid (HK3.out.below hb4 HK3.out.lt)
  have HB4 := Lib.hid (HB3.out.trans (hb4.mono HB3.out.size))
  clear hV hb4
  go_wp2_with ((with_reducible refine wpList_isK (o := ⟨none, .store 41 (.tmp 2) (.tmp 10), _, _, _, _⟩) ?_); refine wpList_over (o := ⟨none, .store 41 (.tmp 2) _, _, _, _, _⟩) rfl 41 _ _ rfl D V ZS 41 rfl rfl HK4.out (by rw [HVL.out, HZS.out]) HSV.out HONE.out ?_; intro w9 HK9 hk9; have HB9 := Lib.hid (below_keeps HB4.out hk9.out (Nat.le_refl _) (fun i hi => by rw [hi, ← HD.out]; exact Nat.le_refl _)))
  refine bodyPost_ret (results_rowT rfl _ D _ _ _ rfl HK9.out HUS.out rfl HSV.out) rfl ?_
  exact ⟨by rw [HVV.out], HB9.out⟩
def zB64 : List Value := (List.replicate 64 (0 : Int)).map (Value.int .u8)
theorem size_b64 : (Try.prog.info? 114).map (·.size) = some 64 := by kernel_rfl
theorem alloc_b64 (W : World) (o : Oper) (ho : o.op = .alloc 114) (ev : Operand → Value) : (execOp ev o).run Try.prog W = .ok (.value (.pointer (some ⟨W.heap.size, 0, none⟩))) (W.alloc (.cells zB64.toArray 114)) := by
  obtain ⟨d, op, t, p, af, g⟩ := o
  simp only at ho
  subst ho
  kernel_rfl
theorem b64_all (D : Nat) (W : World) : (Instr.sliceAt 114 (.pointer (some ⟨D, 0, none⟩)) none none none).run Try.prog W = .ok (.slice (some ⟨D, 0, none⟩) 64 64) W := by kernel_rfl
def xorB (b : Int) (xs : List Int) : List Int := xs.map fun x => bits .xor .u8 x b
theorem bits_u8 (op : BinOp) (x y : Int) : 0 ≤ bits op .u8 x y ∧ bits op .u8 x y ≤ 255 := by
  unfold bits
  dsimp only
  generalize (match op with
    | .and => BitVec.ofInt IntKind.u8.bits x &&& BitVec.ofInt IntKind.u8.bits y
    | .or => BitVec.ofInt IntKind.u8.bits x ||| BitVec.ofInt IntKind.u8.bits y
    | .xor => BitVec.ofInt IntKind.u8.bits x ^^^ BitVec.ofInt IntKind.u8.bits y
    | _ => BitVec.ofInt IntKind.u8.bits x &&& ~~~BitVec.ofInt IntKind.u8.bits y).toNat = k
  simp [IntKind.wrap, IntKind.bits, IntKind.signed]
  omega
theorem xorB_bytes (b : Int) (xs : List Int) : Bytes (xorB b xs) := fun x hx => by
  obtain ⟨y, _, rfl⟩ := List.mem_map.1 hx
  exact bits_u8 ..
def AgAns (b : Int) (ks : List Int) (w : World) (e : Ending) (w' : World) : Prop :=
  ∃ g, e = .returned (.slice (some ⟨g, 0, none⟩) 64 64) ∧ w.heap.size ≤ g ∧ Rd w' .u8 (some ⟨g, 0, none⟩) 64 (xorB b ks) ∧ Below w.heap.size w w'
set_option maxRecDepth 100000 in
set_option maxHeartbeats 4000000 in
theorem against_any (KB : Nat) (ks : List Int) (b : Int) (w : World) (hk : Blk w KB 114 (ks.map (Value.int .u8))) (hl : ks.length = 64) (hks : Bytes ks) :
    Calls Try.prog 55 #[.int .u8 b, .pointer (some ⟨KB, 0, none⟩)] w (AgAns b ks w) := by
  obtain ⟨C, hC⟩ : ∃ C, ks.map (Value.int .u8) = C := ⟨_, rfl⟩
  have HCL : Hid (C.length = 64) := Lib.hid (by rw [← hC, List.length_map, hl])
  have HONE : Hid (∀ v ∈ C, v.oneCell' = true) := Lib.hid (by rw [← hC]; exact one_u8s _)
  have HSC : Hid ((Try.prog.info? 114).map (·.size) = some C.length) := Lib.hid (by rw [HCL.out]; exact size_b64)
  rw [hC] at hk
  have HCC := Lib.hid hC
  have HK := Lib.hid hk
  have HL := Lib.hid hl
  have HKS := Lib.hid hks
  have HAL := Lib.hid alloc_b64
  have HZL : Hid (zB64.length = 64) := Lib.hid rfl
  generalize zB64 = Z at HAL HZL
  have HU := Lib.hid Try.underlying114
  clear hC hk hl hks
  go_enter Try.func55, Try.ntmps55
  go_upto_region 2 with (first
    | ((with_reducible refine wpList_isK (o := ⟨some 6, _, _, _, _, _⟩) ?_); refine wpList_loadT (o := ⟨some 6, _, _, _, _, _⟩) rfl 114 _ rfl KB rfl 114 C _ HK.out HU.out rfl HSC.out ?_)
    | ((with_reducible refine wpList_isK (o := ⟨some 4, _, _, _, _, _⟩) ?_); refine wpList_allocT (o := ⟨some 4, .alloc 114, _, _, _, _⟩) rfl 114 Z (fun W => HAL.out W _ rfl _) ?_; intro w1 HK1 HB1; obtain ⟨D, hD⟩ : ∃ R, w.heap.size = R := ⟨_, rfl⟩; rw [hD] at HK1 ⊢; have HD := Lib.hid hD; clear hD)
    | ((with_reducible refine wpList_isK (o := ⟨none, .store 114 (.tmp 4) (.tmp 6), _, _, _, _⟩) ?_); refine wpList_over (o := ⟨none, .store 114 (.tmp 4) _, _, _, _, _⟩) rfl 114 _ _ rfl D C Z 114 rfl rfl HK1.out (by rw [HCL.out, HZL.out]) HSC.out HONE.out ?_; intro w2 HK2 hk2; have HB2 := Lib.hid (below_keeps HB1.out hk2.out (Nat.le_refl _) (fun i hi => by rw [hi, ← HD.out]; exact Nat.le_refl _)); clear hk2))
  have HZX : Hid ((xorB b ks).length = ks.length) := Lib.hid (by rw [xorB, List.length_map])
  have HM0 : Hid (Blk w2 D 114 (((xorB b ks).take 0 ++ ks.drop 0).map (Value.int .u8))) := Lib.hid (by simpa [HCC.out] using HK2.out)
  go_wp2_with fail
  go_loopw [7] (fun i wr => ∃ t : Nat, t ≤ 64 ∧ i = .int .i64 (t : Int) ∧ Blk wr D 114 (((xorB b ks).take t ++ ks.drop t).map (Value.int .u8)) ∧ Keeps (· = D) w2 wr) (fun i _ => 64 - (intOf i).toNat)
  case atStart => exact ⟨0, by omega, rfl, HM0.out, Keeps.refl _ _⟩
  case round =>
    obtain ⟨t, ht, rfl, hm, hk⟩ := hrel
    have HM := Lib.hid hm
    have HKr := Lib.hid hk
    by_cases hlt : t < 64
    · obtain ⟨x, hx⟩ : ∃ x, ks[t]? = some x := ⟨_, List.getElem?_eq_getElem (by rw [HL.out]; exact hlt)⟩
      have hxt : (xorB b ks)[t]? = some (bits .xor .u8 x b) := by rw [xorB, List.getElem?_map, hx]; rfl
      have dx : wr.cell? ⟨D, t, none⟩ = some (.int .u8 x) := (hm.cell t).trans (by
        rw [List.getElem?_map, List.getElem?_append_right (by rw [List.length_take]; omega), List.getElem?_drop, List.length_take, HZX.out, HL.out, show t + (t - min t 64) = t by omega, hx]; rfl)
      have fx := hm.free t
      have i0 : (0 : Int) ≤ (t : Int) := by omega
      have i1 : (t : Int) < 64 := by omega
      have HT := Lib.hid hlt
      have HXT := Lib.hid hxt
      clear hx hxt hlt ht hm hk
      go_wp2_with fail
      go_roundw
      case rel =>
        refine ⟨t + 1, by have := HT.out; omega, by go_num, ?_, HKr.out.trans (Keeps.set1 wr ⟨D, t, none⟩ _)⟩
        have h1 := HM.out.int_put t (bits .xor .u8 x b)
        rwa [mix_next (xorB b ks) ks t _ HZX.out HXT.out] at h1
      case measure => simp [intOf]; have := HT.out; omega
    · obtain rfl : t = 64 := by omega
      have hall := b64_all D
      have hfin : Blk wr D 114 ((xorB b ks).map (Value.int .u8)) := by
        rwa [List.take_of_length_le (by rw [HZX.out, HL.out]; exact Nat.le_refl _), List.drop_of_length_le (by rw [HL.out]; exact Nat.le_refl _), List.append_nil] at hm
      have HF := Lib.hid hfin
      clear hm hk hlt ht hfin
      go_wp2_with fail
      go_ret
      exact ⟨D, rfl, by rw [HD.out]; exact Nat.le_refl _, rd_of_blk HF.out (xorB_bytes b ks) (by rw [HZX.out, HL.out]) (by omega), below_keeps HB2.out HKr.out (Nat.le_refl _) (fun i hi => by rw [hi, ← HD.out]; exact Nat.le_refl _)⟩
end Go.Proofs.Ytadpgodmkodgdaa

namespace Go.Proofs.Ytadpgodmkodgdaa
open Go.RowKit
set_option linter.unusedSimpArgs false
set_option linter.unusedVariables false

/-- Slices of bytes that are read. -/
structure MParts (w : World) (P : Option Addr) (n : Nat) (ps : List (List Int)) : Prop where
  len : ps.length = n
  big : n ≤ 140737488351232
  row : 0 < n → ∃ b off, P = some ⟨b, off, none⟩ ∧ b < w.heap.size ∧ ∀ j p, ps[j]? = some p → ∃ A c, w.cell? ⟨b, off + j, none⟩ = some (.slice A p.length c) ∧ p.length ≤ c ∧ Rd w .u8 A p.length p
theorem MParts.below {w w' : World} {P : Option Addr} {n : Nat} {ps : List (List Int)} (h : MParts w P n ps) (hb : Below w.heap.size w w') : MParts w' P n ps :=
  ⟨h.len, h.big, fun hn => by
    obtain ⟨b, off, e, hlt, hc⟩ := h.row hn
    refine ⟨b, off, e, Nat.lt_of_lt_of_le hlt hb.size, fun j p hj => ?_⟩
    obtain ⟨A, c, h1, h2, h3⟩ := hc j p hj
    exact ⟨A, c, (hb.cell (p := ⟨b, off + j, none⟩) hlt).trans h1, h2, h3.below hb⟩⟩
def key64 (k : List Int) : List Int := (if 64 < k.length then shaOf k else k) ++ List.replicate (64 - (if 64 < k.length then shaOf k else k).length) 0
/-- HMAC-SHA-256. -/
def macOf (k : List Int) (ps : List (List Int)) : List Int := shaOf (xorB 92 (key64 k) ++ shaOf (xorB 54 (key64 k) ++ flatI ps))
def MacAns (k : List Int) (ps : List (List Int)) (w : World) (e : Ending) (w' : World) : Prop := e = .returned (.agg ((macOf k ps).map (Value.int .u8)).toArray) ∧ Below w.heap.size w w'
theorem WriteAns.zero {G H : Nat} {xs : List Int} {w : World} {e : Ending} {w' : World} (h : WriteAns G H [] xs w e w') : ∃ H', e = .returned (.int .i64 0) ∧ RunH w' G H' xs (totI xs.length) ∧ (H' = H ∨ w.heap.size ≤ H') ∧ H' ≠ G ∧ Keeps (· = G) w w' := by
  obtain ⟨H', a, b, c⟩ := h
  exact ⟨H', a, by simpa using b, c⟩
noncomputable def mac5 : Code := (Try.f43.body.bind (atRegion 5)).getD .skip
set_option maxRecDepth 100000 in
set_option maxHeartbeats 4000000 in
theorem mac_tail {K : Act → World → Prop} {u2 u3 u6 u7 u8 u9 u10 u11 u12 u13 u14 u15 u16 u17 u18 u19 u20 u21 u22 u23 u24 u25 u26 u27 u28 u29 u30 u31 u32 u33 u34 u35 u36 u37 u38 u39 u40 u41 u42 u43 u44 u45 u46 u47 u48 u49 : Value} {D KB n c m cm : Nat} {A P : Option Addr} {key kb : List Int} {ps : List (List Int)} {w W : World}
    (hK : ∀ a V, Code.wp Try.prog (seqB mac5) (bodyPost Try.prog Try.f43 (MacAns key ps w)) a V → K a V)
    (hB : Below w.heap.size w W) (hD : Blk W D 41 zSUMT) (hKB : Blk W KB 114 zB64) (hwD : w.heap.size ≤ D) (hwK : w.heap.size ≤ KB) (hDK : D ≠ KB)
    (hr : Rd W .u8 A n kb) (hn : n ≤ 64) (hc : n ≤ c) (hkb : kb ++ List.replicate (64 - kb.length) 0 = key64 key) (hp : MParts w P m ps) :
    Code.wp Try.prog (seqA mac5) (Exit.then K (bodyPost Try.prog Try.f43 (MacAns key ps w))) ⟨#[.slice A n c, .slice P m cm, u2, u3, .pointer (some ⟨D, 0, none⟩), .pointer (some ⟨KB, 0, none⟩), u6, u7, u8, u9, u10, u11, u12, u13, u14, u15, u16, u17, u18, u19, u20, u21, u22, u23, u24, u25, u26, u27, u28, u29, u30, u31, u32, u33, u34, u35, u36, u37, u38, u39, u40, u41, u42, u43, u44, u45, u46, u47, u48, u49], []⟩ W := by
  obtain ⟨rest, hrest⟩ : ∃ r, r = seqB mac5 := ⟨_, rfl⟩
  rw [← hrest] at hK
  conv at hrest => rhs; whnf
  subst hrest
  conv => arg 2; whnf
  obtain ⟨ks, hks⟩ : ∃ ks, key64 key = ks := ⟨_, rfl⟩
  rw [hks] at hkb
  have hkl : kb.length = n := hr.len
  have hbytes : Bytes ks := by
    rw [← hkb]
    intro x hx
    rw [List.mem_append] at hx
    rcases hx with hx | hx
    · exact bytes_of_wf hr.wf x hx
    · rw [List.mem_replicate] at hx; omega
  have hksl : ks.length = 64 := by rw [← hkb, List.length_append, List.length_replicate, hkl]; omega
  have hsrc : 0 < (kb.map (Value.int .u8)).length → (some ⟨KB, 0, none⟩ : Option Addr) = some ⟨KB, 0, none⟩ ∧ ∃ ad, A = some ad ∧ ∀ j v, (kb.map (Value.int .u8))[j]? = some v → W.cell? (ad.add j) = some v := fun h0 => by
    rw [List.length_map, hkl] at h0
    obtain ⟨b, off, rfl, _, hcell⟩ := hr.row h0
    refine ⟨rfl, _, rfl, fun j v hv => ?_⟩
    have hj : j < n := by have := (List.getElem?_eq_some_iff.1 hv).1; rwa [List.length_map, hkl] at this
    have ha : (⟨b, off, none⟩ : Addr).add j = ⟨b, off + j, none⟩ := by unfold Addr.add; split <;> simp_all
    rw [ha, hcell j hj, ← hv, List.getElem?_map, List.getElem?_eq_getElem (by rw [hkl]; exact hj)]
    rfl
  have hsp : splice zB64 0 (kb.map (Value.int .u8)) = ks.map (Value.int .u8) := by
    rw [← hkb, splice, List.take_zero, List.nil_append, Nat.zero_add, List.length_map, List.map_append, zB64, List.map_replicate, List.map_replicate, List.drop_replicate]
  have HSRC := Lib.hid hsrc
  have HSP := Lib.hid hsp
  have HB := Lib.hid hB
  have HKB := Lib.hid hKB
  have HZB : Hid (zB64.length = 64) := Lib.hid rfl
  generalize zB64 = ZB at HKB HSP HZB
  have HALS := Lib.hid alloc_sumt
  have HZS : Hid (zSUMT.length = 32) := Lib.hid rfl
  have HD := Lib.hid hD
  generalize zSUMT = ZS at HALS HZS HD
  have HUS := Lib.hid Try.underlying41
  have HBY := Lib.hid hbytes
  have HKSL := Lib.hid hksl
  have HKKS := Lib.hid hks
  have HWD := Lib.hid hwD
  have HWK := Lib.hid hwK
  have HDK := Lib.hid hDK
  have HP := Lib.hid hp
  have HN : Hid ((kb.map (Value.int .u8)).length = Nat.min n 64) := Lib.hid (by rw [List.length_map, hkl]; exact (Nat.min_eq_left hn).symm)
  have HFIT : Hid (0 + (kb.map (Value.int .u8)).length ≤ ZB.length) := Lib.hid (by rw [List.length_map, hkl, HZB.out]; omega)
  have hall := b64_all KB
  have hml := hp.big
  clear hsrc hsp hB hKB hD hbytes hksl hks hwD hwK hDK hp hkb hkl hr hn hc
  go_upto_region 7 with ((with_reducible refine wpList_isK (o := ⟨some 21, _, _, _, _, _⟩) ?_); refine wpList_copy (o := ⟨some 21, _, _, _, _, _⟩) rfl _ _ _ _ rfl 5 Try.underlying49 size_u8w (some ⟨KB, 0, none⟩) A 64 64 n c rfl rfl KB 0 ZB 114 HKB.out (kb.map (Value.int .u8)) HN.out HSRC.out HFIT.out (one_u8s _) ?_; intro w2 hk2 hkk2; have HKB2 : Hid (Blk w2 KB 114 (ks.map (Value.int .u8))) := Lib.hid (by have := hk2.out; rwa [HSP.out] at this); have HB2 := Lib.hid (below_keeps HB.out hkk2 (Nat.le_refl _) (fun i hi => by rw [hi]; exact HWK.out)); have HD2 := Lib.hid (HD.out.keep hkk2 (fun h => HDK.out h)); clear hk2 hkk2)
  go_wp2_with fail
  refine (new_run _).mono ?_
  rintro e1 w3 ⟨G1, H1, rfl, hr3, hG3, hH3, hne3, hb3⟩
  have HR3 := Lib.hid hr3
  have HNE1 := Lib.hid hne3
  have HB3 := Lib.hid (HB2.out.trans (hb3.mono HB2.out.size))
  have HD3 := Lib.hid (HD2.out.below hb3 HD2.out.lt)
  have HKB3 := Lib.hid (HKB2.out.below hb3 HKB2.out.lt)
  have HG1 := Lib.hid (show w.heap.size ≤ G1 ∧ D ≠ G1 ∧ KB ≠ G1 by have := HB2.out.size; have := HD2.out.lt; have := HKB2.out.lt; omega)
  clear hr3 hG3 hH3 hne3 hb3 HB2 HD2 HKB2
  go_wp2_with fail
  refine (new_run _).mono ?_
  rintro e1 w4 ⟨G2, H2, rfl, hr4, hG4, hH4, hne4, hb4⟩
  have HR4 := Lib.hid (HR3.out.keep (M := fun _ => False) (Keeps.of_below hb4) (fun h => h) (fun h => h))
  have HQ4 := Lib.hid hr4
  have HNE2 := Lib.hid hne4
  have HB4 := Lib.hid (HB3.out.trans (hb4.mono HB3.out.size))
  have HD4 := Lib.hid (HD3.out.below hb4 HD3.out.lt)
  have HKB4 := Lib.hid (HKB3.out.below hb4 HKB3.out.lt)
  have HG1L : G1 < w3.heap.size := by obtain ⟨⟨b6, a6, _⟩, _⟩ := HR3.out; exact a6.lt
  have HG2 := Lib.hid (show w.heap.size ≤ G2 ∧ D ≠ G2 ∧ KB ≠ G2 ∧ G2 ≠ G1 ∧ H2 ≠ G1 by have := HB3.out.size; have := HD3.out.lt; have := HKB3.out.lt; omega)
  clear hr4 hG4 hH4 hne4 hb4 HB3 HD3 HKB3 HR3 HG1L
  go_wp2_with fail
  refine (against_any KB ks 54 _ HKB4.out HKSL.out HBY.out).mono ?_
  rintro e1 w5 ⟨g5, rfl, hg5, hr5, hb5⟩
  have HR5 := Lib.hid (HR4.out.keep (M := fun _ => False) (Keeps.of_below hb5) (fun h => h) (fun h => h))
  have HQ5 := Lib.hid (HQ4.out.keep (M := fun _ => False) (Keeps.of_below hb5) (fun h => h) (fun h => h))
  have HB5 := Lib.hid (HB4.out.trans (hb5.mono HB4.out.size))
  have HD5 := Lib.hid (HD4.out.below hb5 HD4.out.lt)
  have HKB5 := Lib.hid (HKB4.out.below hb5 HKB4.out.lt)
  have hx5 : RdX w5 G1 (some ⟨g5, 0, none⟩) 64 (xorB 54 ks) := ⟨hr5, fun _ => ⟨g5, 0, rfl, by
    have : G1 < w4.heap.size := by obtain ⟨⟨b6, a6, _⟩, _⟩ := HR4.out; exact a6.lt
    omega⟩⟩
  have hwr5 := write_any G1 H1 64 64 _ [] _ w5 HR5.out HNE1.out hx5 (Nat.le_refl _)
  have HW5 := Lib.hid hwr5
  clear hg5 hr5 hb5 HB4 HD4 HKB4 HR4 HQ4 hx5 hwr5
  go_wp2_with fail
  refine HW5.out.mono ?_
  intro e1 w6 hw6
  obtain ⟨H6, rfl, hr6, -, hne6, hk6⟩ := hw6.zero
  have HR6 := Lib.hid hr6
  have HNE6 := Lib.hid hne6
  have HQ6 := Lib.hid (HQ5.out.keep hk6 HG2.out.2.2.2.1 HG2.out.2.2.2.2)
  have HB6 := Lib.hid (below_keeps HB5.out hk6 (Nat.le_refl _) (fun i hi => by rw [hi]; exact HG1.out.1))
  have HD6 := Lib.hid (HD5.out.keep hk6 HG1.out.2.1)
  have HKB6 := Lib.hid (HKB5.out.keep hk6 HG1.out.2.2)
  clear hw6 hr6 hne6 hk6 HR5 HQ5 HB5 HD5 HKB5 HW5
  go_wp2_with fail
  obtain ⟨X, hX⟩ : ∃ X, xorB 54 ks = X := ⟨_, rfl⟩
  have HX := Lib.hid hX
  rw [hX] at HR6
  clear hX
  go_loopw [31] (fun i wr => ∃ j H' : Nat, j ≤ m ∧ i = .int .i64 (j : Int) ∧ RunH wr G1 H' (X ++ flatI (ps.take j)) (totI (X ++ flatI (ps.take j)).length) ∧ H' ≠ G1 ∧ Keeps (· = G1) w6 wr) (fun i _ => m - (intOf i).toNat)
  case atStart => exact ⟨0, H6, Nat.zero_le _, rfl, by simpa [flatI] using HR6.out, HNE6.out, Keeps.refl _ _⟩
  case round =>
    obtain ⟨j, H', hj, rfl, hR, hne', hk⟩ := hrel
    have hbr := below_keeps HB6.out hk (Nat.le_refl _) (fun i hi => by rw [hi]; exact HG1.out.1)
    have hpw := HP.out.below hbr
    by_cases hlt : j < m
    · obtain ⟨b, off, rfl, hbl, hcell⟩ := hpw.row (by omega)
      obtain ⟨p, hpj⟩ : ∃ p, ps[j]? = some p := ⟨_, List.getElem?_eq_getElem (by have := hpw.len; omega)⟩
      obtain ⟨A1, c1, h1, h2, h3⟩ := hcell j p hpj
      have hpo : RdX wr G1 A1 p.length p := by
        obtain ⟨b0, off0, e0, hb0, hc0⟩ := HP.out.row (by omega)
        injection e0 with e0
        injection e0 with e1 e2
        subst e1; subst e2
        obtain ⟨A2, c2, g1, g2, g3⟩ := hc0 j p hpj
        have e3 := (hbr.cell (p := ⟨b, off + j, none⟩) hb0).trans g1
        rw [h1] at e3
        injection e3 with e3
        injection e3 with e4 e5 e6
        subst e4
        exact (rdX_new g3 HG1.out.1).below hbr
      have hnext : X ++ flatI (ps.take (j + 1)) = (X ++ flatI (ps.take j)) ++ p := by rw [List.take_add_one, hpj, flatI, flatI, List.flatten_append, List.append_assoc]; simp
      have hwr := write_any G1 H' p.length c1 A1 _ p wr hR hne' hpo h2
      have HNX := Lib.hid hnext
      have HWR := Lib.hid hwr
      have HLT := Lib.hid hlt
      have HK := Lib.hid hk
      have i0 : (0 : Int) ≤ (j : Int) := by omega
      have i1 : (j : Int) < (m : Int) := by omega
      generalize p.length = pl at h1 HWR
      clear hwr hnext hpo hpj hcell hpw hbr hR hne' hk h2 h3 hlt hj
      go_wp2_with fail
      refine HWR.out.mono ?_
      rintro e1 w7 ⟨H7, rfl, hr7, -, hne7, hk7⟩
      rw [← HNX.out] at hr7
      have HR7 := Lib.hid hr7
      have HNE7 := Lib.hid hne7
      have HK7 := Lib.hid (HK.out.trans hk7)
      clear hr7 hne7 hk7 HWR
      go_wp2_with fail
      go_roundw
      case rel => exact ⟨j + 1, H7, by have := HLT.out; omega, by go_num, HR7.out, HNE7.out, HK7.out⟩
      case measure => simp [intOf]; have := HLT.out; omega
    · obtain rfl : j = m := by omega
      rw [List.take_of_length_le (by rw [hpw.len]; exact Nat.le_refl _)] at hR
      have HR7 := Lib.hid hR
      have HNE7 := Lib.hid hne'
      have HQ7 := Lib.hid (HQ6.out.keep hk HG2.out.2.2.2.1 HG2.out.2.2.2.2)
      have HB7 := Lib.hid hbr
      have HD7 := Lib.hid (HD6.out.keep hk HG1.out.2.1)
      have HKB7 := Lib.hid (HKB6.out.keep hk HG1.out.2.2)
      clear hR hne' hk hbr hpw hlt hj
      go_wp2_with fail
      refine (sum_run G1 H' _ wr HR7.out HNE7.out).mono ?_
      rintro e1 w8 ⟨rfl, hb8⟩
      obtain ⟨SI, hSI⟩ : ∃ SI, shaOf (X ++ flatI ps) = SI := ⟨_, rfl⟩
      have HSIL : Hid (SI.length = 32) := Lib.hid (by rw [← hSI, shaOf_length])
      have HSIB : Hid (Bytes SI) := Lib.hid (by rw [← hSI]; exact shaOf_bytes _)
      have HSI := Lib.hid hSI
      rw [hSI]
      obtain ⟨V, hV⟩ : ∃ V, SI.map (Value.int .u8) = V := ⟨_, rfl⟩
      have HVV := Lib.hid hV
      have HVL : Hid (V.length = 32) := Lib.hid (by rw [← hV, List.length_map, HSIL.out])
      have HONE : Hid (∀ v ∈ V, v.oneCell' = true) := Lib.hid (by rw [← hV]; exact one_u8s _)
      have HSV : Hid ((Try.prog.info? 41).map (·.size) = some V.length) := Lib.hid (by rw [HVL.out]; exact size_sumt)
      rw [hV]
      have HQ8 := Lib.hid (HQ7.out.keep (M := fun _ => False) (Keeps.of_below hb8) (fun h => h) (fun h => h))
      have HB8 := Lib.hid (HB7.out.trans (hb8.mono HB7.out.size))
      have HD8 := Lib.hid (HD7.out.below hb8 HD7.out.lt)
      have HKB8 := Lib.hid (HKB7.out.below hb8 HKB7.out.lt)
      clear hb8 hSI hV HR7 HNE7 HQ7 HB7 HD7 HKB7
      go_upto_region 15 with (first
        | ((with_reducible refine wpList_isK (o := ⟨some 12, _, _, _, _, _⟩) ?_); refine wpList_allocT (o := ⟨some 12, .alloc 41, _, _, _, _⟩) rfl 41 ZS (fun W => HALS.out W _ rfl _) ?_; intro w9 HK9 HB9'; obtain ⟨S2, hS2⟩ : ∃ R, w8.heap.size = R := ⟨_, rfl⟩; rw [hS2] at HK9 ⊢; have HS2 := Lib.hid hS2; have HB9 := Lib.hid (HB8.out.trans (HB9'.out.mono HB8.out.size)); have HQ9 := Lib.hid (HQ8.out.keep (M := fun _ => False) (Keeps.of_below HB9'.out) (fun h => h) (fun h => h)); have HD9 := Lib.hid (HD8.out.below HB9'.out HD8.out.lt); have HKB9 := Lib.hid (HKB8.out.below HB9'.out HKB8.out.lt); have HWS := Lib.hid (show w.heap.size ≤ S2 ∧ D < S2 ∧ KB < S2 ∧ G2 < S2 ∧ H2 < S2 by have := HB8.out.size; have := HD8.out.lt; have := HKB8.out.lt; have := HQ8.out.st.lt; have : G2 < w8.heap.size := by { obtain ⟨⟨b6, a6, _⟩, _⟩ := HQ8.out; exact a6.lt }; omega); clear hS2 HB9')
        | ((with_reducible refine wpList_isK (o := ⟨none, .store 41 (.tmp 12) (.tmp 40), _, _, _, _⟩) ?_); refine wpList_over (o := ⟨none, .store 41 (.tmp 12) _, _, _, _, _⟩) rfl 41 _ _ rfl S2 V ZS 41 rfl rfl HK9.out (by rw [HVL.out, HZS.out]) HSV.out HONE.out ?_; intro w10 HK10 hk10; have HB10 := Lib.hid (below_keeps HB9.out hk10.out (Nat.le_refl _) (fun i hi => by rw [hi]; exact HWS.out.1)); have HQ10 := Lib.hid (HQ9.out.keep hk10.out (fun h => by have := HWS.out; omega) (fun h => by have := HWS.out; omega)); have HD10 := Lib.hid (HD9.out.keep hk10.out (fun h => by have := HWS.out; omega)); have HKB10 := Lib.hid (HKB9.out.keep hk10.out (fun h => by have := HWS.out; omega)); clear hk10))
      clear HQ8 HB8 HD8 HKB8 HQ9 HB9 HD9 HKB9 HK9
      go_wp2_with fail
      refine (against_any KB ks 92 _ HKB10.out HKSL.out HBY.out).mono ?_
      rintro e1 w11 ⟨g11, rfl, hg11, hr11, hb11⟩
      have HQ11 := Lib.hid (HQ10.out.keep (M := fun _ => False) (Keeps.of_below hb11) (fun h => h) (fun h => h))
      have HB11 := Lib.hid (HB10.out.trans (hb11.mono HB10.out.size))
      have HD11 := Lib.hid (HD10.out.below hb11 HD10.out.lt)
      have HS11 := Lib.hid (HK10.out.below hb11 HK10.out.lt)
      have hx11 : RdX w11 G2 (some ⟨g11, 0, none⟩) 64 (xorB 92 ks) := ⟨hr11, fun _ => ⟨g11, 0, rfl, by have := HWS.out; have := HK10.out.lt; omega⟩⟩
      have HW11 := Lib.hid (write_any G2 H2 64 64 _ [] _ w11 HQ11.out HNE2.out hx11 (Nat.le_refl _))
      clear hg11 hr11 hb11 hx11 HQ10 HB10 HD10 HKB10 HK10
      go_wp2_with fail
      refine HW11.out.mono ?_
      intro e1 w12 hw12
      obtain ⟨H12, rfl, hr12, -, hne12, hk12⟩ := hw12.zero
      have HB12 := Lib.hid (below_keeps HB11.out hk12 (Nat.le_refl _) (fun i hi => by rw [hi]; exact HG2.out.1))
      have HD12 := Lib.hid (HD11.out.keep hk12 HG2.out.2.1)
      have hS12 := HS11.out.keep hk12 (fun h => by have := HWS.out; omega)
      have hx12 : RdX w12 G2 (some ⟨S2, 0, none⟩) 32 SI := ⟨rd_of_blk (by rw [HVV.out]; exact hS12) HSIB.out HSIL.out (by omega), fun _ => ⟨S2, 0, rfl, by have := HWS.out; omega⟩⟩
      have HW12 := Lib.hid (write_any G2 H12 32 32 _ _ _ w12 hr12 hne12 hx12 (Nat.le_refl _))
      have hall2 := sum_all S2
      clear hw12 hr12 hne12 hk12 hS12 hx12 HQ11 HB11 HD11 HS11 HW11
      go_wp2_with fail
      refine HW12.out.mono ?_
      rintro e1 w13 ⟨H13, rfl, hr13, -, hne13, hk13⟩
      have HB13 := Lib.hid (below_keeps HB12.out hk13 (Nat.le_refl _) (fun i hi => by rw [hi]; exact HG2.out.1))
      have HD13 := Lib.hid (HD12.out.keep hk13 HG2.out.2.1)
      have HS13 := Lib.hid (sum_run G2 H13 _ w13 hr13 hne13)
      clear hr13 hne13 hk13 HB12 HD12 HW12 hall2
      go_wp2_with fail
      refine HS13.out.mono ?_
      rintro e1 w14 ⟨rfl, hb14⟩
      have hmac : macOf key ps = shaOf (xorB 92 ks ++ SI) := by rw [macOf, HKKS.out, HX.out, HSI.out]
      obtain ⟨U, hU⟩ : ∃ U, (shaOf (xorB 92 ks ++ SI)).map (Value.int .u8) = U := ⟨_, rfl⟩
      have HUU : Hid ((macOf key ps).map (Value.int .u8) = U) := Lib.hid (by rw [hmac]; exact hU)
      have HUL : Hid (U.length = 32) := Lib.hid (by rw [← hU, List.length_map, shaOf_length])
      have HUN : Hid (∀ v ∈ U, v.oneCell' = true) := Lib.hid (by rw [← hU]; exact one_u8s _)
      have HSU : Hid ((Try.prog.info? 41).map (·.size) = some U.length) := Lib.hid (by rw [HUL.out]; exact size_sumt)
      rw [hU]
      have HD14 := Lib.hid (HD13.out.below hb14 HD13.out.lt)
      have HB14 := Lib.hid (HB13.out.trans (hb14.mono HB13.out.size))
      clear hU hb14 hmac HD13 HB13 HS13
      go_wp2_with ((with_reducible refine wpList_isK (o := ⟨none, .store 41 (.tmp 4) (.tmp 49), _, _, _, _⟩) ?_); refine wpList_over (o := ⟨none, .store 41 (.tmp 4) _, _, _, _, _⟩) rfl 41 _ _ rfl D U ZS 41 rfl rfl HD14.out (by rw [HUL.out, HZS.out]) HSU.out HUN.out ?_; intro w15 HK15 hk15; have HB15 := Lib.hid (below_keeps HB14.out hk15.out (Nat.le_refl _) (fun i hi => by rw [hi]; exact HWD.out)))
      refine bodyPost_ret (results_rowT rfl _ D _ _ _ rfl HK15.out HUS.out rfl HSU.out) rfl ?_
      exact ⟨by rw [HUU.out], HB15.out⟩
end Go.Proofs.Ytadpgodmkodgdaa
