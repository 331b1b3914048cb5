/- The walks over covers' seal.is, Guided; The walk over slices.EqualFunc as guides.Origin asks it. -/
import Derived.Test.YtadpgodmkodgdaaXRGuidesRoom33
namespace Go.Proofs.Ytadpgodmkodgdaa
open Go.RowKit
set_option linter.unusedSimpArgs false
set_option linter.unusedVariables false

/-- Has a packet the piece that it should have? -/
def isV (key : List Int) (kind : Int) (f t : List Int) (ps : List Piece) (T : Int) : Bool :=
  match paFind ps T with
  | none => false
  | some b => decide (pkE kind (paBelow ps T) = 0) && decide (b = covB key kind f t (paBelow ps T))
theorem paFind_mem {ps : List Piece} {t : Int} {b : List Int} (h : paFind ps t = some b) : ∃ p ∈ ps, p.2 = b := by
  rw [paFind, Option.map_eq_some_iff] at h
  obtain ⟨p, hp, rfl⟩ := h
  exact ⟨p, List.mem_of_find?_eq_some hp, rfl⟩
set_option maxRecDepth 100000 in
set_option maxHeartbeats 4000000 in
theorem is_any (KB : Nat) (key : List Int) (kind : Int) (f t : List Int) (ps : List Piece) (T : Int) (A : Option Addr) (n c : Nat) (w : World) (hps : Ps w A n ps) (hn : n < 1099511627776) (hf : f.length = 16) (ht : t.length = 16) (hfb : isB f) (htb : isB t) (hk : 0 ≤ kind ∧ kind ≤ 255)
    (hK : Blk w KB 41 (key.map (Value.int .u8))) (hkl : key.length = 32) (hkb : Bytes key) :
    Calls Try.prog 36 #[sealV T KB, .agg (pktC kind f t (.slice A n c)).toArray] w fun e w' => e = .returned (.bool (isV key kind f t ps T)) ∧ Below w.heap.size w w' := by
  obtain ⟨C, hC⟩ : ∃ C, pktC kind f t (.slice A n c) = C := ⟨_, rfl⟩
  have hcl : C.length = 34 := by rw [← hC]; exact pktC_length hf ht
  have hc33 : C[33]? = some (.slice A n c) := by rw [← hC, pktC, List.getElem?_cons_succ, List.getElem?_append_right (by simp [hf]), List.getElem?_append_right (by simp [hf, ht])]; simp [hf, ht]
  have hbody := fun (W : World) (A2 : Option Addr) (n2 c2 : Nat) (hb : Below w.heap.size w W) (h2 : Ps W A2 n2 (paBelow ps T)) => body_any KB key kind f t (paBelow ps T) A2 n2 c2 W h2 hf ht hfb htb hk (hK.below hb hK.lt) hkl hkb
  have hbel := fun (W : World) (hb : Below w.heap.size w W) => belowp_any kind f t ps T A n c W (hps.below hb) hn hf ht
  have hfind := fun (W : World) (hb : Below w.heap.size w W) => find_any A n c T ps W (hps.below hb) hn
  rw [hC] at hbel ⊢
  have hbl : (paBelow ps T).length ≤ 4398046510976 := by have h1 : (paBelow ps T).length ≤ ps.length := List.length_filter_le _ _; have := hps.len; have := hps.big; omega
  have HBL := Lib.hid hbl
  have HOK := Lib.hid (okPiece_below (t := T) hps.okp.1)
  have HLN : Hid (∀ p ∈ paBelow ps T, p.2.length ≤ 140737488351232) := Lib.hid (fun p hp => hps.okp.2 p (List.mem_filter.1 hp).1)
  have HOK0 := Lib.hid hps.okp
  have HBODY := Lib.hid hbody
  have HBEL := Lib.hid hbel
  have HFIND := Lib.hid hfind
  have HSC : Hid ((Try.prog.info? 45).map (·.size) = some C.length) := Lib.hid (by rw [hcl]; exact info_pkt)
  have HU := Lib.hid Try.underlying45
  have HC33 := Lib.hid hc33
  have HFL := Lib.hid hf
  have HTL := Lib.hid ht
  have HCL := Lib.hid hcl
  clear hps hn hc33 hbody hbel hfind hcl hK hkl hkb hC hf ht hfb htb hk hbl
  unfold sealV
  go_enter Try.func36, Try.ntmps36
  go_wp2_with (first
    | ((with_reducible refine wpList_isK (o := ⟨some 2, _, _, _, _, _⟩) ?_); refine wpList_boxT (o := ⟨some 2, .box 87 _, _, _, _, _⟩) rfl 87 _ rfl [.int .u16 T, .func (.func 40) #[] #[.pointer (some ⟨KB, 0, none⟩)]] rfl ?_; intro w1 HS1 HB1; obtain ⟨S, hS⟩ : ∃ R, w.heap.size = R := ⟨_, rfl⟩; rw [hS] at HS1 ⊢; have HSS := Lib.hid hS; clear hS)
    | ((with_reducible refine wpList_isK (o := ⟨some 3, _, _, _, _, _⟩) ?_); refine wpList_boxT (o := ⟨some 3, .box 45 _, _, _, _, _⟩) rfl 45 _ rfl C rfl ?_; intro w2 HP2 HB2'; obtain ⟨P, hP⟩ : ∃ R, w1.heap.size = R := ⟨_, rfl⟩; rw [hP] at HP2 ⊢; have HB2 := Lib.hid (HB1.out.trans (HB2'.out.mono HB1.out.size)); have HS2 := Lib.hid (HS1.out.below HB2'.out HS1.out.lt); have d33 : w2.cell? ⟨P, 33, none⟩ = some (.slice A n c) := (HP2.out.cell 33).trans HC33.out; have d0 : w2.cell? ⟨S, 0, none⟩ = some (.int .u16 T) := HS2.out.cell 0; clear hP HB2'))
  refine (HFIND.out w2 HB2.out).mono ?_
  have ff : ∀ (e : Ending) (w' : World), FindRes w2 ps T e w' → ∃ (B : Option Addr) (m : Nat) (is : Bool) (body : List Int), e = .returned (.tuple #[.slice B m m, .bool is]) ∧ Rd w' .u8 B m body ∧ paFind ps T = (if is = true then some body else none) ∧ Below w2.heap.size w2 w' := by
    intro e w' h
    rcases h with ⟨h1, h2, h3⟩ | ⟨body, B, h1, h2, h3, h4⟩
    · exact ⟨none, 0, false, [], h2, rd_nil _ _, by rw [h1]; rfl, h3⟩
    · obtain ⟨p, hp, rfl⟩ := paFind_mem h1
      exact ⟨B, _, true, p.2, h2, h3.rd (HOK0.out.1 p hp).2.2 (HOK0.out.2 p hp), by rw [h1]; rfl, h4⟩
  intro e w3 h3
  obtain ⟨B, m, is, body, rfl, hr3, hpf, hb3⟩ := ff e w3 h3
  have HR3 := Lib.hid hr3
  have HPF := Lib.hid hpf
  have HB3 := Lib.hid (HB2.out.trans (hb3.mono HB2.out.size))
  have HS3 := Lib.hid (HS2.out.below hb3 HS2.out.lt)
  have HP3 := Lib.hid (HP2.out.below hb3 HP2.out.lt)
  clear ff h3 hr3 hpf hb3 d33 d0
  go_upto_region 2 with fail
  have HB4 : Hid (Below w.heap.size w w3.drew) := Lib.hid (below_drawn HB3.out ⟨1, rfl⟩)
  have HP4 : Hid (Blk w3.drew P 45 C) := Lib.hid HP3.out.drew
  have HS4 : Hid (Blk w3.drew S 87 [.int .u16 T, .func (.func 40) #[] #[.pointer (some ⟨KB, 0, none⟩)]]) := Lib.hid HS3.out.drew
  have HR4 := Lib.hid (HR3.out.below ⟨rfl, rfl, rfl, Nat.le_refl _, fun _ _ => rfl⟩ : Rd w3.drew .u8 B m body)
  have sc : ∀ W, Blk W S 87 [.int .u16 T, .func (.func 40) #[] #[.pointer (some ⟨KB, 0, none⟩)]] → W.cell? ⟨S, 1, none⟩ = some (.func (.func 40) #[] #[.pointer (some ⟨KB, 0, none⟩)]) ∧ W.cell? ⟨S, 0, none⟩ = some (.int .u16 T) := fun W h => ⟨h.cell 1, h.cell 0⟩
  have HSCE := Lib.hid sc
  clear sc
  refine wp_region_noPanic ?_
  refine wp_region_held_drew (S := fun w' => w'.cell? ⟨S, 1, none⟩ = some (.func (.func 40) #[] #[.pointer (some ⟨KB, 0, none⟩)]) ∧ w'.cell? ⟨S, 0, none⟩ = some (.int .u16 T) ∧ w'.rangeAt P 0 C) (by kernel_rfl) ⟨(HSCE.out _ HS4.out).1, (HSCE.out _ HS4.out).2, HP4.out.range⟩ (fun hHeld => ?_)
  refine wpAnyH_take (i := 0) (oi := ⟨some 18, _, _, _, _, _⟩) (v := ?_) rfl (by kernel_rfl) (by kernel_rfl) (by kernel_rfl) (fun _ _ _ h => False.elim h) (Or.inl ⟨by rfl, ?_⟩) (by assumption) ?_
  rotate_left
  · intro w hSw
    (try dsimp only at hSw)
    go_simp
    all_goals with_reducible rfl
  (try simp only [Act.put, List.setIfInBounds_toArray, List.set_cons_zero, List.set_cons_succ])
  refine wpAnyH_take (i := 1) (oi := ⟨some 19, _, _, _, _, _⟩) (v := ?_) rfl (by kernel_rfl) (by kernel_rfl) (by kernel_rfl) (fun _ _ _ h => False.elim h) (Or.inl ⟨by rfl, ?_⟩) (by assumption) ?_
  rotate_left
  · intro w hSw
    (try dsimp only at hSw)
    go_simp
    all_goals with_reducible rfl
  (try simp only [Act.put, List.setIfInBounds_toArray, List.set_cons_zero, List.set_cons_succ])
  refine wpAnyH_take (i := 2) (oi := ⟨some 20, _, _, _, _, _⟩) (v := .agg C.toArray) rfl (by kernel_rfl) (by kernel_rfl) (by kernel_rfl) (fun _ _ _ h => False.elim h) ?_ (by assumption) ?_
  · refine yieldsIf_load_mid ?_ 45 _ rfl P 0 rfl C _ ?_ HU.out rfl HSC.out
    · rfl
    · (intro w hSw; (try dsimp only at hSw); go_split_ands; assumption)
  (try simp only [Act.put, List.setIfInBounds_toArray, List.set_cons_zero, List.set_cons_succ])
  refine wpAnyH_take (i := 3) (oi := ⟨some 21, _, _, _, _, _⟩) (v := ?_) rfl (by kernel_rfl) (by kernel_rfl) (by kernel_rfl) (fun _ _ _ h => False.elim h) (Or.inl ⟨by rfl, ?_⟩) (by assumption) ?_
  rotate_left
  · intro w hSw
    (try dsimp only at hSw)
    go_simp
    all_goals with_reducible rfl
  (try simp only [Act.put, List.setIfInBounds_toArray, List.set_cons_zero, List.set_cons_succ])
  refine wpAnyH_take (i := 4) (oi := ⟨some 22, _, _, _, _, _⟩) (v := ?_) rfl (by kernel_rfl) (by kernel_rfl) (by kernel_rfl) (fun _ _ _ h => False.elim h) (Or.inl ⟨by rfl, ?_⟩) (by assumption) ?_
  rotate_left
  · intro w hSw
    (try dsimp only at hSw)
    go_simp
    all_goals with_reducible rfl
  (try simp only [Act.put, List.setIfInBounds_toArray, List.set_cons_zero, List.set_cons_succ])
  refine wpAnyH_ready (rs := [5]) (by kernel_rfl) (by simp) ?_
  refine AllReadyH.cons (o := ⟨some 23, _, _, _, _, _⟩) rfl (fun K hK => ?_) AllReadyH.nil
  go_simp
  refine (HBEL.out _ HB4.out).mono ?_
  rintro e1 w5 ⟨G, cells, rfl, ho5, hb5⟩
  dsimp only
  have HB5 := Lib.hid (HB4.out.trans (hb5.mono HB4.out.size))
  have HP5 := Lib.hid (HP4.out.below hb5 HP4.out.lt)
  have HS5 := Lib.hid (HS4.out.below hb5 HS4.out.lt)
  have HR5 := Lib.hid (HR4.out.below hb5)
  have hps5 := ho5.asPs rfl HBL.out HOK.out HLN.out
  have HBO := Lib.hid (HBODY.out w5 _ _ (paBelow ps T).length HB5.out hps5)
  clear ho5 hb5 hps5
  refine hK.out _ _ ⟨(HSCE.out _ HS5.out).1, (HSCE.out _ HS5.out).2, HP5.out.range⟩ (fun hHeld => ?_)
  clear hK K
  (try simp only [Act.put, List.setIfInBounds_toArray, List.set_cons_zero, List.set_cons_succ])
  refine wpAnyH_ready (rs := [6]) (by kernel_rfl) (by simp) ?_
  refine AllReadyH.cons (o := ⟨some 24, _, _, _, _, _⟩) rfl (fun K hK => ?_) AllReadyH.nil
  go_simp
  refine HBO.out.mono ?_
  rintro e1 w6 ⟨A6, c6, rfl, hc6, hr6, hz6, hb6⟩
  dsimp only
  have HB6 := Lib.hid (HB5.out.trans (hb6.mono HB5.out.size))
  have HP6 := Lib.hid (HP5.out.below hb6 HP5.out.lt)
  have HS6 := Lib.hid (HS5.out.below hb6 HS5.out.lt)
  have HR6 := Lib.hid (HR5.out.below hb6)
  have HQ6 := Lib.hid hr6
  clear hc6 hr6 hz6 hb6 HBO
  refine hK.out _ _ ⟨(HSCE.out _ HS6.out).1, (HSCE.out _ HS6.out).2, HP6.out.range⟩ (fun hHeld => ?_)
  clear hK K
  (try simp only [Act.put, List.setIfInBounds_toArray, List.set_cons_zero, List.set_cons_succ])
  refine wpAnyH_take (i := 7) (oi := ⟨some 17, _, _, _, _, _⟩) (v := ?_) rfl (by kernel_rfl) (by kernel_rfl) (by kernel_rfl) (fun _ _ _ h => False.elim h) (Or.inl ⟨by rfl, ?_⟩) (by assumption) ?_
  rotate_left
  · intro w hSw
    (try dsimp only at hSw)
    go_simp
    all_goals with_reducible rfl
  (try simp only [Act.put, List.setIfInBounds_toArray, List.set_cons_zero, List.set_cons_succ])
  refine wpAnyH_take (i := 8) (oi := ⟨some 25, _, _, _, _, _⟩) (v := ?_) rfl (by kernel_rfl) (by kernel_rfl) (by kernel_rfl) (fun _ _ _ h => False.elim h) (Or.inl ⟨by rfl, ?_⟩) (by assumption) ?_
  rotate_left
  · intro w hSw
    (try dsimp only at hSw)
    go_simp
    all_goals with_reducible rfl
  (try simp only [Act.put, List.setIfInBounds_toArray, List.set_cons_zero, List.set_cons_succ])
  refine wpAnyH_take (i := 9) (oi := ⟨some 26, _, _, _, _, _⟩) (v := ?_) rfl (by kernel_rfl) (by kernel_rfl) (by kernel_rfl) (fun _ _ _ h => False.elim h) (Or.inl ⟨by rfl, ?_⟩) (by assumption) ?_
  rotate_left
  · intro w hSw
    (try dsimp only at hSw)
    go_simp
    all_goals with_reducible rfl
  (try simp only [Act.put, List.setIfInBounds_toArray, List.set_cons_zero, List.set_cons_succ])
  refine wpAnyH_take (i := 10) (oi := ⟨some 7, _, _, _, _, _⟩) (v := ?_) rfl (by kernel_rfl) (by kernel_rfl) (by kernel_rfl) (fun _ _ _ h => False.elim h) (Or.inl ⟨by rfl, ?_⟩) (by assumption) ?_
  rotate_left
  · intro w hSw
    (try dsimp only at hSw)
    go_simp
    all_goals with_reducible rfl
  (try simp only [Act.put, List.setIfInBounds_toArray, List.set_cons_zero, List.set_cons_succ])
  refine wpAnyH_take (i := 11) (oi := ⟨some 8, _, _, _, _, _⟩) (v := ?_) rfl (by kernel_rfl) (by kernel_rfl) (by kernel_rfl) (fun _ _ _ h => False.elim h) (Or.inl ⟨by rfl, ?_⟩) (by assumption) ?_
  rotate_left
  · intro w hSw
    (try dsimp only at hSw)
    go_simp
    all_goals with_reducible rfl
  (try simp only [Act.put, List.setIfInBounds_toArray, List.set_cons_zero, List.set_cons_succ])
  refine wpAnyH_done (by kernel_rfl) ?_ _
  refine NoPanic.normal ?_
  obtain ⟨E, hE⟩ : ∃ E, pkE kind (paBelow ps T) = E := ⟨_, rfl⟩
  have HE := Lib.hid hE
  rw [hE]
  clear hE hHeld
  cases is with
  | false =>
    have HV : Hid (isV key kind f t ps T = false) := Lib.hid (by rw [isV, HPF.out]; rfl)
    go_wp2_with fail
    go_ret
    exact ⟨by rw [HV.out]; rfl, HB6.out⟩
  | true =>
    by_cases h0 : E = 0
    · have HV : Hid (isV key kind f t ps T = decide (body = covB key kind f t (paBelow ps T))) := Lib.hid (by rw [isV, HPF.out, if_pos rfl]; simp only [HE.out, h0]; simp)
      subst h0
      have HSA := Lib.hid (same_any B A6 m m 32 c6 body _ w6 HR6.out HQ6.out)
      generalize covB key kind f t (paBelow ps T) = Y at HSA HV
      obtain ⟨bq, hbq⟩ : ∃ b, decide (body = Y) = b := ⟨_, rfl⟩
      rw [hbq] at HSA HV
      clear hbq
      go_wp2_with fail
      refine HSA.out.mono ?_
      rintro e1 w7 ⟨rfl, hd7⟩
      have HD := Lib.hid (below_drawn HB6.out hd7)
      clear hd7 HSA
      go_wp2_with fail
      go_ret
      exact ⟨by rw [HV.out]; rfl, HD.out⟩
    · have HV : Hid (isV key kind f t ps T = false) := Lib.hid (by rw [isV, HPF.out, if_pos rfl]; simp only [HE.out]; simp [h0])
      have g1 : (E == 0) = false := by simpa using h0
      clear h0
      go_wp2_with fail
      go_ret
      exact ⟨by rw [HV.out]; rfl, HB6.out⟩
set_option maxRecDepth 100000 in
set_option maxHeartbeats 4000000 in
theorem guided_any (key : List Int) (kind : Int) (f t : List Int) (ps : List Piece) (A : Option Addr) (n c : Nat) (w : World) (hps : Ps w A n ps) (hn : n < 1099511627776) (hf : f.length = 16) (ht : t.length = 16) (hfb : isB f) (htb : isB t) (hk : 0 ≤ kind ∧ kind ≤ 255)
    (hkl : key.length = 32) (hkb : Bytes key) :
    Calls Try.prog 23 #[.agg (pktC kind f t (.slice A n c)).toArray, .agg (key.map (Value.int .u8)).toArray] w fun e w' => e = .returned (.bool (isV key kind f t ps 65502)) ∧ Below w.heap.size w w' := by
  obtain ⟨C, hC⟩ : ∃ C, pktC kind f t (.slice A n c) = C := ⟨_, rfl⟩
  have hcl : C.length = 34 := by rw [← hC]; exact pktC_length hf ht
  have hon := fun (W : World) (KB : Nat) (hb : Below w.heap.size w W) (hK : Blk W KB 41 (key.map (Value.int .u8))) => is_any KB key kind f t ps 65502 A n c W (hps.below hb) hn hf ht hfb htb hk hK hkl hkb
  have hcs := fun W => csum_any 65502 key W
  obtain ⟨X, hX⟩ : ∃ X, key.map (Value.int .u8) = X := ⟨_, rfl⟩
  have hxl : X.length = 32 := by rw [← hX, List.length_map, hkl]
  rw [hC] at hon ⊢
  rw [hX] at hcs ⊢
  have HON := Lib.hid hon
  have HCS := Lib.hid hcs
  have HX := Lib.hid hX
  have HSC : Hid ((Try.prog.info? 45).map (·.size) = some C.length) := Lib.hid (by rw [hcl]; exact info_pkt)
  have HSX : Hid ((Try.prog.info? 41).map (·.size) = some X.length) := Lib.hid (by rw [hxl]; exact size_sumt)
  have HU := Lib.hid Try.underlying45
  have HUS := Lib.hid Try.underlying41
  obtain ⟨Q0, hQ0⟩ : ∃ q, isV key kind f t ps 65502 = q := ⟨_, rfl⟩
  rw [hQ0] at HON ⊢
  clear hps hn hcl hC hf ht hfb htb hk hkl hkb hon hcs hX hxl hQ0
  go_enter Try.func23, Try.ntmps23
  go_upto_region 1 with (first
    | ((with_reducible refine wpList_isK (o := ⟨some 2, _, _, _, _, _⟩) ?_); refine wpList_boxT (o := ⟨some 2, .box 45 _, _, _, _, _⟩) rfl 45 _ rfl C rfl ?_; intro w1 HP1 HB1; obtain ⟨P, hP⟩ : ∃ R, w.heap.size = R := ⟨_, rfl⟩; rw [hP] at HP1 ⊢; have HPP := Lib.hid hP; clear hP)
    | ((with_reducible refine wpList_isK (o := ⟨some 3, _, _, _, _, _⟩) ?_); refine wpList_boxT (o := ⟨some 3, .box 41 _, _, _, _, _⟩) rfl 41 _ rfl X rfl ?_; intro w2 HK2 HB2'; obtain ⟨Q, hQ⟩ : ∃ R, w1.heap.size = R := ⟨_, rfl⟩; rw [hQ] at HK2 ⊢; have HB2 := Lib.hid (HB1.out.trans (HB2'.out.mono HB1.out.size)); have HP2 := Lib.hid (HP1.out.below HB2'.out HP1.out.lt); clear hQ HB2'))
  have HB4 : Hid (Below w.heap.size w w2.drew) := Lib.hid (below_drawn HB2.out ⟨1, rfl⟩)
  have HP4 : Hid (Blk w2.drew P 45 C) := Lib.hid HP2.out.drew
  have HK4 : Hid (Blk w2.drew Q 41 X) := Lib.hid HK2.out.drew
  refine wp_region_noPanic ?_
  refine wp_region_held_drew (S := fun w' => w'.rangeAt Q 0 X ∧ w'.rangeAt P 0 C) (by kernel_rfl) ⟨HK4.out.range, HP4.out.range⟩ (fun hHeld => ?_)
  refine wpAnyH_take (i := 0) (oi := ⟨some 5, _, _, _, _, _⟩) (v := .agg X.toArray) rfl (by kernel_rfl) (by kernel_rfl) (by kernel_rfl) (fun _ _ _ h => False.elim h) ?_ (by assumption) ?_
  · refine yieldsIf_load_mid ?_ 41 _ rfl Q 0 rfl X _ ?_ HUS.out rfl HSX.out
    · rfl
    · (intro w hSw; (try dsimp only at hSw); go_split_ands; assumption)
  (try simp only [Act.put, List.setIfInBounds_toArray, List.set_cons_zero, List.set_cons_succ])
  refine wpAnyH_take (i := 2) (oi := ⟨some 7, _, _, _, _, _⟩) (v := .agg C.toArray) rfl (by kernel_rfl) (by kernel_rfl) (by kernel_rfl) (fun _ _ _ h => False.elim h) ?_ (by assumption) ?_
  · refine yieldsIf_load_mid ?_ 45 _ rfl P 0 rfl C _ ?_ HU.out rfl HSC.out
    · rfl
    · (intro w hSw; (try dsimp only at hSw); go_split_ands; assumption)
  (try simp only [Act.put, List.setIfInBounds_toArray, List.set_cons_zero, List.set_cons_succ])
  refine wpAnyH_ready (rs := [1]) (by kernel_rfl) (by simp) ?_
  refine AllReadyH.cons (o := ⟨some 6, _, _, _, _, _⟩) rfl (fun K hK => ?_) AllReadyH.nil
  go_simp
  refine (HCS.out _).mono ?_
  rintro e1 w5 ⟨KB, rfl, hKB, hkk, hb5⟩
  dsimp only
  have HB5 := Lib.hid (HB4.out.trans (hb5.mono HB4.out.size))
  have HP5 := Lib.hid (HP4.out.below hb5 HP4.out.lt)
  have HK5 := Lib.hid (HK4.out.below hb5 HK4.out.lt)
  have HO5 := Lib.hid (HON.out w5 KB HB5.out hkk)
  clear hb5 hkk hKB
  refine hK.out _ _ ⟨HK5.out.range, HP5.out.range⟩ (fun hHeld => ?_)
  clear hK K
  (try simp only [Act.put, List.setIfInBounds_toArray, List.set_cons_zero, List.set_cons_succ])
  refine wpAnyH_ready (rs := [3]) (by kernel_rfl) (by simp) ?_
  refine AllReadyH.cons (o := ⟨some 8, _, _, _, _, _⟩) rfl (fun K hK => ?_) AllReadyH.nil
  go_simp
  refine HO5.out.mono ?_
  rintro e1 w6 ⟨rfl, hb6⟩
  dsimp only
  have HB6 := Lib.hid (HB5.out.trans (hb6.mono HB5.out.size))
  have HP6 := Lib.hid (HP5.out.below hb6 HP5.out.lt)
  have HK6 := Lib.hid (HK5.out.below hb6 HK5.out.lt)
  clear hb6
  refine hK.out _ _ ⟨HK6.out.range, HP6.out.range⟩ (fun hHeld => ?_)
  clear hK K
  (try simp only [Act.put, List.setIfInBounds_toArray, List.set_cons_zero, List.set_cons_succ])
  refine wpAnyH_take (i := 4) (oi := ⟨some 4, _, _, _, _, _⟩) (v := ?_) rfl (by kernel_rfl) (by kernel_rfl) (by kernel_rfl) (fun _ _ _ h => False.elim h) (Or.inl ⟨by rfl, ?_⟩) (by assumption) ?_
  rotate_left
  · intro w hSw
    (try dsimp only at hSw)
    go_simp
    all_goals with_reducible rfl
  (try simp only [Act.put, List.setIfInBounds_toArray, List.set_cons_zero, List.set_cons_succ])
  refine wpAnyH_done (by kernel_rfl) ?_ _
  refine NoPanic.normal ?_
  clear hHeld
  go_wp2_with fail
  go_ret
  exact ⟨rfl, HB6.out⟩
end Go.Proofs.Ytadpgodmkodgdaa

namespace Go.Proofs.Ytadpgodmkodgdaa
open Go.RowKit
set_option linter.unusedSimpArgs false
set_option linter.unusedVariables false

set_option maxHeartbeats 1000000 in
theorem orgc_any (u t : Int) (B : Option Addr) (m c : Nat) (w : World) : Calls Try.prog 22 #[.agg #[.int .u16 u, .slice B m c], .int .u16 t] w fun e w' => e = .returned (.bool (u == t)) ∧ Below w.heap.size w w' := by
  have HB := Lib.hid (new_below w (.cells #[.int .u16 u, .slice B m c] 69))
  go_enter Try.func22, Try.ntmps22
  go_wp2_with fail
  go_ret
  exact ⟨rfl, HB.out⟩
/-- Slices of the same length, alike so far. -/
theorem eq_of_pre {ts us : List Int} (hl : ts.length = us.length) (h : ∀ i t u, i < ts.length → ts[i]? = some t → us[i]? = some u → t = u) : ts = us := by
  apply List.ext_getElem hl
  intro i h1 h2
  exact h i _ _ h1 (List.getElem?_eq_getElem h1) (List.getElem?_eq_getElem h2)
set_option maxRecDepth 100000 in
set_option maxHeartbeats 4000000 in
theorem eqf_any (A : Option Addr) (n c U m : Nat) (ts us : List Int) (w : World) (h : TyRow w A n ts) (hu : Blk w U 52 (us.map (Value.int .u16))) (hul : us.length = m) (hum : m < 1000) :
    Calls Try.prog 21 #[.slice A n c, .slice (some ⟨U, 0, none⟩) m m, .func (.func 22) #[] #[]] w fun e w' => e = .returned (.bool (decide (ts = us))) ∧ Below w.heap.size w w' := by
  have hl := h.1
  have hbig := h.2.1
  by_cases hnm : n = m
  · subst hnm
    have f1 : ((n : Int) != (n : Int)) = false := by simp
    have HT := Lib.hid h
    have HU := Lib.hid hu
    have HUL := Lib.hid hul
    have HL := Lib.hid hl
    clear h hu hul hl
    go_enter Try.func21, Try.ntmps21
    go_wp2_with fail
    go_loopw [17] (fun i wr => ∃ j : Nat, j ≤ n ∧ i = .int .i64 (j : Int) ∧ (∀ k t u, k < j → ts[k]? = some t → us[k]? = some u → t = u) ∧ Below w.heap.size w wr) (fun i _ => n - (intOf i).toNat)
    case atStart => exact ⟨0, Nat.zero_le _, rfl, fun k t u hk => absurd hk (by omega), Below.refl _ _⟩
    case round =>
      obtain ⟨j, hj, rfl, hpre, hB⟩ := hrel
      have HPRE := Lib.hid hpre
      have HB := Lib.hid hB
      clear hpre
      by_cases hlt : j < n
      · obtain ⟨b, off, rfl, hb, hc⟩ := (HT.out.below hB).2.2 (by omega)
        obtain ⟨t, B, q, d, h1, h2, h3⟩ := hc j hlt
        obtain ⟨u, hu⟩ : ∃ u, us[j]? = some u := ⟨_, List.getElem?_eq_getElem (by rw [HUL.out]; exact hlt)⟩
        have h4 : (wr.alloc (.cells #[.int .u16 t, .slice B q d] 69)).cell? ⟨U, j, none⟩ = some (.int .u16 u) := (((HU.out.below hB HU.out.lt).alloc _).cell j).trans (by rw [List.getElem?_map, hu]; rfl)
        have H1 := Lib.hid h1
        have H4 := Lib.hid hu
        have HB2 := Lib.hid (hB.alloc hB.size (.cells #[.int .u16 t, .slice B q d] 69))
        have i0 : (0 : Int) ≤ (j : Int) := by omega
        have i1 : (j : Int) < (n : Int) := by omega
        have HLT := Lib.hid hlt
        by_cases htu : t = u
        · subst htu
          clear h1 hc hB hu hlt hj
          go_wp2_with fail
          refine (orgc_any t t B q d _).mono ?_
          rintro e1 w2 ⟨rfl, hb2⟩
          have HB3 := Lib.hid (HB2.out.trans (hb2.mono HB2.out.size))
          clear hb2
          go_wp2_with fail
          go_roundw
          case rel =>
            refine ⟨j + 1, by have := HLT.out; omega, by go_num, fun k t' u' hk h1' h2' => ?_, HB3.out⟩
            rcases Nat.lt_or_ge k j with h | h
            · exact HPRE.out k t' u' h h1' h2'
            · obtain rfl : k = j := by omega
              rw [H1.out] at h1'
              rw [H4.out] at h2'
              injection h1' with h1'; injection h2' with h2'
              rw [← h1', ← h2']
          case measure => simp [intOf]; have := HLT.out; omega
        · have g1 : (t == u) = false := by simpa using htu
          have HN : Hid (decide (ts = us) = false) := Lib.hid (by
            rw [decide_eq_false_iff_not]; intro h; subst h
            rw [h1] at hu; injection hu with hu; exact htu hu)
          clear h1 hc hB hu hlt hj htu
          go_wp2_with fail
          refine (orgc_any t u B q d _).mono ?_
          rintro e1 w2 ⟨rfl, hb2⟩
          rw [g1]
          have HB3 := Lib.hid (HB2.out.trans (hb2.mono HB2.out.size))
          clear hb2
          go_wp2_with fail
          go_ret
          exact ⟨by rw [HN.out]; rfl, HB3.out⟩
      · obtain rfl : j = n := by omega
        have HY : Hid (decide (ts = us) = true) := Lib.hid (by
          rw [decide_eq_true_eq]
          exact eq_of_pre (by rw [HL.out, HUL.out]) (fun i t u hi h1 h2 => HPRE.out i t u (by rw [← HL.out]; exact hi) h1 h2))
        clear hB hlt hj
        go_wp2_with fail
        go_ret
        exact ⟨by rw [HY.out]; rfl, HB.out⟩
  · have f1 : ((n : Int) != (m : Int)) = true := by simp; omega
    have HN : Hid (decide (ts = us) = false) := Lib.hid (by rw [decide_eq_false_iff_not]; intro h; subst h; omega)
    clear h hu hl hul
    go_enter Try.func21, Try.ntmps21
    go_wp2_with fail
    go_ret
    exact ⟨by rw [HN.out]; rfl, Below.refl _ _⟩
end Go.Proofs.Ytadpgodmkodgdaa
