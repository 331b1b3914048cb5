/- The law SpotsPlay: the walk. -/
import Derived.Test.YtgecfcdafbedaaaGreatDoorZRSpotsPlayUpto44
import Derived.Test.YtgecfcdafbedaaaGreatDoorZRSpotsPlayUpto45
import Derived.Deep.RegionHeld3
import Derived.Deep.DeepCutAuto
import Derived.Deep.CutBlock
namespace Go.Proofs.YtgecfcdafbedaaaGreatDoor
open Go.RowKit
set_option linter.unusedSimpArgs false
set_option linter.unusedVariables false

def zACT : List Value := [.int .u8 0, .slice none 0 0, .int .u32 0] ++ ((List.replicate 32 (0 : Int)).map (Value.int .u8) ++ [.int .i64 0])
theorem alloc_act (W : World) (o : Oper) (ho : o.op = .alloc 54) (ev : Operand → Value) : (execOp ev o).run Tryz.prog W = .ok (.value (.pointer (some ⟨W.heap.size, 0, none⟩))) (W.alloc (.cells zACT.toArray 54)) := by
  obtain ⟨d, op, t, p, af, g⟩ := o
  simp only at ho
  subst ho
  kernel_rfl
theorem saC_one (x : Sa) : ∀ v ∈ saC x, v.oneCell' = true := by
  intro v hv
  simp only [saC, List.mem_cons, List.mem_append, List.mem_map, List.not_mem_nil, or_false] at hv
  rcases hv with rfl | rfl | rfl | ⟨y, _, rfl⟩ | rfl <;> rfl
theorem size_act : (Tryz.prog.info? 54).map (·.size) = some 36 := by kernel_rfl
theorem acts_at {w : World} {A : Option Addr} {n : Nat} {xs : List Sa} (h : SActs w A n xs) {k : Nat} (hk : k < n) : ∃ b off x, A = some ⟨b, off, none⟩ ∧ b < w.heap.size ∧ xs[k]? = some x ∧ OkSa w x ∧ ∀ W, Below w.heap.size w W → W.rangeAt b (off + k * 36) (saC x) := by
  obtain ⟨b, off, e, hb, hr⟩ := h.row (by omega)
  obtain ⟨x, hx⟩ : ∃ x, xs[k]? = some x := ⟨_, List.getElem?_eq_getElem (by rw [h.len]; exact hk)⟩
  refine ⟨b, off, x, e, hb, hx, h.ok x (List.mem_of_getElem? hx), fun W hW => ?_⟩
  exact fun i v hv => (hW.cell (p := ⟨b, off + k * 36 + i, none⟩) hb).trans (hr k x hx i v hv)
/-- What holds of the list that was handed to the set. -/
structure TwAt (w0 wr : World) (gt ct n S0 S1 : Nat) (xs : List Int) : Prop where
  own : wr.ownsRow w0.heap.size 23 1 (.slice (some ⟨gt, 0, none⟩) (n + 1) ct) (n + 1) ((xs ++ [77]).map (Value.int .u32))
  len : xs.length = n
  cap : n < ct
  capm : ct ≤ maxLen
  lo : S0 ≤ gt
  hi : gt < S1
theorem TwAt.below {w0 wr w' : World} {gt ct n S0 S1 : Nat} {xs : List Int} (h : TwAt w0 wr gt ct n S0 S1 xs) (hB : Below wr.heap.size wr w') : TwAt w0 w' gt ct n S0 S1 xs :=
  ⟨(Keeps.of_below (M := fun _ => False) hB).own h.own (fun _ _ h => h), h.len, h.cap, h.capm, h.lo, h.hi⟩
theorem TwAt.blk {w0 wr : World} {gt ct n S0 S1 : Nat} {xs : List Int} (h : TwAt w0 wr gt ct n S0 S1 xs) : ∃ cs, Blk wr gt 23 cs := by
  rcases h.own.2 with ⟨h1, _⟩ | ⟨g, cap, cur, h1, h2, h3, _⟩
  · injection h1 with h1; cases h1
  · injection h1 with h1
    injection h1 with h1
    injection h1 with h1
    subst h1
    exact ⟨cur.toList, by unfold Blk; rw [h3]⟩
theorem TwAt.keep {w0 wr w' : World} {gt ct n S0 S1 q : Nat} {T : TypeId} {xs : List Int} {cs : List Value} (h : TwAt w0 wr gt ct n S0 S1 xs) (hk : Keeps (fun i => i = q) wr w') (hq : Blk wr q T cs) (hT : T ≠ 23) : TwAt w0 w' gt ct n S0 S1 xs :=
  ⟨hk.own h.own (fun k hk2 e => by
    have hk3 : gt = k := by simpa [Value.ownBlock] using hk2
    obtain ⟨ds, hd⟩ := h.blk
    rw [hk3, e] at hd
    exact blk_ne hq hd hT rfl), h.len, h.cap, h.capm, h.lo, h.hi⟩
theorem TwAt.book {w0 wr w' : World} {gt ct n S0 S1 BK : Nat} {xs : List Int} {ds : List Value} (h : TwAt w0 wr gt ct n S0 S1 xs) (hk : Keeps (ByBook BK BK 102 wr) wr w') (hB : Blk wr BK 49 ds) : TwAt w0 w' gt ct n S0 S1 xs :=
  ⟨hk.own h.own (fun k hk2 e => by
    have hk3 : gt = k := by simpa [Value.ownBlock] using hk2
    obtain ⟨cs, hd⟩ := h.blk
    rw [hk3] at hd
    exact byBook_ne hd hB.lt ⟨ds, hB⟩ (by decide) e), h.len, h.cap, h.capm, h.lo, h.hi⟩
theorem TwAt.rd {w0 wr : World} {gt ct n S0 S1 : Nat} {xs : List Int} (h : TwAt w0 wr gt ct n S0 S1 xs) (hb : ∀ x ∈ xs, 0 ≤ x ∧ x ≤ 4294967295) (hn : n ≤ 35184372087808) : Rd wr .u32 (some ⟨gt, 0, none⟩) (n + 1) (xs ++ [77]) :=
  own_rd32 h.own (fun x hx => by
    rcases List.mem_append.1 hx with hx | hx
    · exact hb x hx
    · rw [List.mem_singleton] at hx; omega) (by omega)
theorem TwAt.rd0 {w0 wr : World} {gt ct n S0 S1 : Nat} {xs : List Int} (h : TwAt w0 wr gt ct n S0 S1 xs) (hb : ∀ x ∈ xs, 0 ≤ x ∧ x ≤ 4294967295) (hn : n ≤ 35184372087808) : Rd wr .u32 (some ⟨gt, 0, none⟩) n xs := by
  have := own_takeS h.own (m := n) (by omega)
  rw [← List.map_take, List.take_append_of_le_length (by rw [h.len]; omega), List.take_of_length_le (by rw [h.len]; omega)] at this
  exact own_rd32 this hb (by omega)
theorem TwAt.row {w0 wr : World} {gt ct n S0 S1 : Nat} {xs : List Int} (h : TwAt w0 wr gt ct n S0 S1 xs) : RowG 23 1 w0.heap.size wr (.slice (some ⟨gt, 0, none⟩) n ct) n (xs.map (Value.int .u32)) := by
  have := own_takeS h.own (m := n) (by omega)
  rw [← List.map_take, List.take_append_of_le_length (by rw [h.len]; omega), List.take_of_length_le (by rw [h.len]; omega)] at this
  exact ⟨_, ct, ct, rfl, by have := h.cap; omega, Nat.le_refl _, this⟩
/-- The lists of a Book lie in blocks older, or younger, than two marks. -/
def Out (lo hi : Nat) (L : List Hb) : Prop := ∀ h ∈ L, ∀ k, h.l.ownBlock = some k → k < lo ∨ hi ≤ k
theorem size_book : (Tryz.prog.info? 49).map (·.size) = some 16 := by kernel_rfl
theorem same_trueP {A B : Option Addr} {n m c d : Nat} {xs ys : List Int} {w : World} (r : Rd w .u32 A n xs) (s : Rd w .u32 B m ys) (h : xs = ys) :
    Calls Tryz.prog 18 #[.slice A n c, .slice B m d] w fun e w' => e = .returned (.bool true) ∧ Below w.heap.size w w' :=
  (samespots_any A B n m c d xs ys w r s).mono fun e w' ⟨q, he, hq, hB⟩ => by
    have : q = true := hq.2 h
    subst this
    exact ⟨he, hB⟩
theorem drewS {w : World} : Below w.heap.size w w.drew := ⟨rfl, rfl, rfl, Nat.le_refl _, fun _ _ => rfl⟩
set_option maxRecDepth 100000 in
set_option maxHeartbeats 16000000 in
theorem play_at (f : Int) (A1 : Option Addr) (n1 c1 : Nat) (acts : List Sa) (w : World) (hf : 0 ≤ f ∧ f ≤ 4294967295) (h1 : SActs w A1 n1 acts) (hgs : gsum acts ≤ 4000000) :
    Calls Tryz.prog 3 #[.int .u32 f, .slice A1 n1 c1] w fun e w' => e = .returned (.bool true) ∧ Below w.heap.size w w' := by
  have HA1 := Lib.hid h1
  have HGR := Lib.hid (greatB_any A1 n1 c1 acts w h1 hgs)
  have HGL : Hid (3 * n1 ≤ gsum acts) := Lib.hid (by have := gsum_len acts; rwa [h1.len] at this)
  have HGM : Hid (∀ x ∈ acts, x.n ≤ gsum acts) := Lib.hid (fun x hx => gsum_mem hx)
  have HNEW := fun (h : 1 ≤ f ∧ f ≤ 4294967295) => Lib.hid (new_any f w h)
  clear h1 hgs
  by_cases hq : 1500 < gsum acts
  · rw [decide_eq_true hq] at HGR
    clear hq HNEW
    go_enter Tryz.func3, Tryz.ntmps3
    go_wp2_with fail
    refine HGR.out.mono ?_; rintro e w' ⟨rfl, rfl⟩
    go_wp2_with fail
    go_ret
    exact ⟨rfl, Below.refl _ _⟩
  rw [decide_eq_false hq] at HGR
  have hn5 : n1 ≤ 500 := by have := HGL.out; omega
  have HX15 : Hid (∀ x ∈ acts, x.n ≤ 1500) := Lib.hid (fun x hx => by have := HGM.out x hx; omega)
  clear hq HGL HGM
  by_cases hz : f = 0
  · subst hz
    clear HNEW
    go_enter Tryz.func3, Tryz.ntmps3
    go_wp2_with fail
    refine HGR.out.mono ?_; rintro e w' ⟨rfl, rfl⟩
    go_wp2_with fail
    refine (new_zero w).mono ?_; rintro e w' ⟨rfl, rfl⟩
    go_wp2_with fail
    refine (rnew_zero w).mono ?_; rintro e w' ⟨rfl, rfl⟩
    go_wp2_with fail
    go_ret
    exact ⟨rfl, Below.refl _ _⟩
  have hf1 : 1 ≤ f ∧ f ≤ 4294967295 := by omega
  have HNEW := HNEW hf1
  have HF1 := Lib.hid hf1
  clear hf hz hf1
  go_enter Tryz.func3, Tryz.ntmps3
  go_wp2_with fail
  refine HGR.out.mono ?_; rintro e w' ⟨rfl, rfl⟩
  go_wp2_with fail
  refine HNEW.out.mono ?_; rintro e w1 ⟨p, g, rfl, hp, hg, hS, hB⟩
  have HPG := Lib.hid (And.intro hp hg)
  have HS1 := Lib.hid hS
  have HB1 := Lib.hid hB
  have HRN := Lib.hid (rnew_any f w1 HF1.out)
  clear hp hg hS hB HNEW
  go_wp2_with fail
  refine HRN.out.mono ?_; rintro e w2 ⟨p', gr0, rfl, hp', hg', hS2, hB2⟩
  have HPG2 := Lib.hid (And.intro (Nat.le_trans HB1.out.size hp') (Nat.le_trans HB1.out.size hg'))
  have HS2 := Lib.hid (HS1.out.below hB2)
  have HR2 := Lib.hid hS2
  have HB2 := Lib.hid (HB1.out.trans (hB2.mono HB1.out.size))
  clear hp' hg' hS2 hB2 HRN HS1 HB1
  have HABK := Lib.hid exec_alloc_book
  have HZB : Hid (∀ W, Blk W w2.heap.size 49 zBook → BkS w2.heap.size W 0 []) := Lib.hid (fun W h => ⟨noH, book_blk h (Nat.le_refl _), rfl, fun _ _ => rfl⟩)
  generalize zBook = ZB at HABK HZB
  go_upto_region 8 with ((with_reducible refine wpList_isS (o := ⟨some 9, .alloc _, _, _, _, _⟩) ?_); refine wpList_allocT rfl 49 ZB (fun W => HABK.out W _ rfl _) ?_; intro w3 HK3 HB3)
  have HST0 : Hid (PlayAt w w3 p g [⟨f, 2, none⟩] 0 p' gr0 1 [⟨f, true, false, List.replicate 32 0⟩] [] 0 w2.heap.size 0 []) := Lib.hid
    ⟨HS2.out.below HB3.out, HR2.out.below HB3.out, HPG.out.1, HPG.out.2, HPG2.out.1, HPG2.out.2, HZB.out w3 HK3.out, HB2.out.size, (fun h hh => by cases hh), fine_nil, HB2.out.trans (HB3.out.mono HB2.out.size)⟩
  obtain ⟨BK, hBK⟩ : ∃ B, w2.heap.size = B := ⟨_, rfl⟩
  rw [hBK] at HST0 ⊢
  have HU := Lib.hid Tryz.underlying52
  have HUA := Lib.hid Tryz.underlying54
  clear HK3 HB3 HS2 HR2 HB2 HPG HPG2 HZB HABK HGR hBK
  go_wp2_with fail
  go_loopw [10] (fun i wr => ∃ (k g : Nat) (L : List Spt) (cr : Int) (gr cc : Nat) (R : List Rs) (csr : List Value) (m : Nat) (L7 : List Hb), k ≤ n1 ∧ i = .int .i64 (k : Int) ∧ PlayAt w wr p g L cr p' gr cc R csr cr BK m L7 ∧ Alike L R ∧ m ≤ 3 * k) (fun i _ => n1 - (intOf i).toNat)
  case atStart => exact ⟨0, g, _, 0, gr0, 1, _, _, 0, [], Nat.zero_le _, rfl, HST0.out, alike_start f, Nat.le_refl _⟩
  case round =>
    clear HST0
    obtain ⟨k, g', L, cr, gr, cc, R, csr, m, L7, hk, rfl, hst, hal, hm⟩ := hrel
    have HST := Lib.hid hst
    have HAL := Lib.hid hal
    clear hst hal
    by_cases hlt : k < n1
    · obtain ⟨b, off, x, rfl, hbl, hx, hok, hpart⟩ := acts_at HA1.out hlt
      have HOKX := Lib.hid hok
      have hxn := HX15.out x (List.mem_of_getElem? hx)
      have HRX := Lib.hid hok.rd
      have HXL : Hid (x.xs.length = x.n) := Lib.hid hok.rd.len
      have HXB : Hid (∀ y ∈ x.xs, 0 ≤ y ∧ y ≤ 4294967295) := Lib.hid (fun y hy => wf_bounds_u32 (hok.rd.wf y hy))
      have hrng := hpart wr HST.out.bel
      have hlen := saC_length hok.sum
      have HRNG := Lib.hid hrng
      have HSZA : Hid ((Tryz.prog.info? 54).map (·.size) = some (saC x).length) := Lib.hid (by rw [hlen]; exact size_act)
      have HLEN := Lib.hid hlen
      have HONE := Lib.hid (saC_one x)
      have HAACT := Lib.hid alloc_act
      have HZA : Hid (zACT.length = 36) := Lib.hid rfl
      generalize zACT = ZA at HAACT HZA
      obtain ⟨CX, hCX⟩ : ∃ c, saC x = c := ⟨_, rfl⟩
      rw [hCX] at HRNG HSZA HLEN HONE
      have HCX := Lib.hid hCX
      have i0 : (0 : Int) ≤ (k : Int) := by omega
      have i1 : (k : Int) < (n1 : Int) := by omega
      obtain ⟨X, hX⟩ : ∃ X, wr.heap.size = X := ⟨_, rfl⟩
      have HX := Lib.hid hX
      clear hbl hx hok hpart hrng hlen hCX hX
      go_upto_region 12 with (first
        | ((with_reducible refine wpList_isS (o := ⟨some 61, .load _ _, _, _, _, _⟩) ?_); refine wpList_want (v := .agg CX.toArray) (w' := _) (by rfl) (exec_loadM rfl b (off + k * 36) rfl CX _ HRNG.out HUA.out rfl HSZA.out) ?_)
        | ((with_reducible refine wpList_isS (o := ⟨some 11, .alloc _, _, _, _, _⟩) ?_); refine wpList_allocT rfl 54 ZA (fun W => HAACT.out W _ rfl _) ?_; intro w3 HK3 HB3; rw [HX.out] at HK3 ⊢)
        | ((with_reducible refine wpList_isS (o := ⟨none, .store 54 _ _, _, _, _, _⟩) ?_); refine wpList_over rfl 54 _ _ rfl X CX ZA 54 rfl rfl HK3.out (by rw [HLEN.out, HZA.out]) HSZA.out HONE.out ?_; intro w4 HK4 hk4))
      have hBX : Below wr.heap.size wr w4 := below_keeps HB3.out hk4.out (Nat.le_refl _) (fun i hi => by rw [hi, HX.out]; exact Nat.le_refl _)
      have HST4 := Lib.hid (HST.out.below hBX)
      clear hBX HB3 hk4 HK3
      have HCELL : Hid (∀ W, Blk W X 54 CX → W.cell? ⟨X, 0, none⟩ = some (.int .u8 x.kind) ∧ W.cell? ⟨X, 1, none⟩ = some (.slice x.A x.n x.c) ∧ W.cell? ⟨X, 2, none⟩ = some (.int .u32 x.spot) ∧ W.rangeAt X 3 (x.sum.map (Value.int .u8)) ∧ W.cell? ⟨X, 35, none⟩ = some (.int .i64 x.bytes)) := Lib.hid (fun W h => by
        rw [← HCX.out] at h
        have := sa_at (b := X) (o := 0) h.range HOKX.out.sum
        simpa using this)
      have HTWN := Lib.hid (twinSp_any x.A x.n x.c x.xs w4 (HRX.out.below HST4.out.bel) HOKX.out.le (by omega))
      obtain ⟨-, k1, -, -, -⟩ := HCELL.out w4 HK4.out
      go_wp2_with fail
      refine HTWN.out.mono ?_; rintro e w5 ⟨gt, ct, rfl, hcap, hcapm, hlo, hhi, hown, hB5⟩
      rw [HXL.out] at hcap hown ⊢
      have HST5 := Lib.hid (HST4.out.below hB5)
      have HK5 : Hid (Blk w5 X 54 CX) := Lib.hid (HK4.out.below hB5 HK4.out.lt)
      have HOLD : Hid (∀ h ∈ L7, ∀ k, h.l.ownBlock = some k → k < w4.heap.size) := Lib.hid (fun h hh k hk => by
        obtain ⟨cs, hr⟩ := HST4.out.rows h hh
        exact (RowG.ty hr hk).2.1)
      have HTWA : Hid (TwAt w w5 gt ct x.n w4.heap.size w5.heap.size x.xs) := Lib.hid ⟨own_lower hown HST4.out.bel.size, HXL.out, hcap, hcapm, hlo, hhi⟩
      obtain ⟨S0, hS0⟩ : ∃ s, w4.heap.size = s := ⟨_, rfl⟩
      obtain ⟨S1, hS1⟩ : ∃ s, w5.heap.size = s := ⟨_, rfl⟩
      have HS01 : Hid (S0 ≤ S1 ∧ w5.heap.size = S1) := Lib.hid ⟨by rw [← hS0, ← hS1]; exact hB5.size, hS1⟩
      rw [hS0] at HOLD HTWA
      rw [hS1] at HTWA
      have HOUT : Hid (Out S0 S1 L7) := Lib.hid (fun h hh k hk => .inl (HOLD.out h hh k hk))
      clear hcap hcapm hlo hhi hown hB5 hS0 hS1 HTWN k1
      obtain ⟨k0, -, -, -, -⟩ := HCELL.out w5 HK5.out
      obtain ⟨kd, hkd⟩ : ∃ z, x.kind = z := ⟨_, rfl⟩
      have hk0 : 0 ≤ kd := by rw [← hkd]; exact HOKX.out.kind.1
      have hk1 : kd ≤ 255 := by rw [← hkd]; exact HOKX.out.kind.2
      rw [hkd] at k0 HCELL
      clear hkd
      obtain ⟨r, hr⟩ : ∃ r, kd % 8 = r := ⟨_, rfl⟩
      have hr0 : 0 ≤ r := by omega
      have hr7 : r ≤ 7 := by omega
      go_upto_block 2 with fail
      clear k0
      rw [hr]
      clear hr hk0 hk1
      have HSZM : Hid ((Tryz.prog.info? 52).map (·.size) = some (x.sum.map (Value.int .u8)).length) := Lib.hid (by rw [List.length_map, HOKX.out.sum]; kernel_rfl)
      go_cut [12] (fun s12 wc => s12 = .slice (some ⟨gt, 0, none⟩) x.n ct ∧ ∃ (g3 : Nat) (L3 : List Spt) (cr3 : Int) (g4 c4 : Nat) (R3 : List Rs) (cs4 : List Value) (m3 : Nat) (M7 : List Hb), PlayAt w wc p g3 L3 cr3 p' g4 c4 R3 cs4 cr3 BK m3 M7 ∧ Alike L3 R3 ∧ TwAt w wc gt ct x.n S0 S1 x.xs ∧ Blk wc X 54 CX ∧ Out S0 S1 M7 ∧ m3 ≤ 3 * k + 1)
      case first =>
        have hrr : r = 0 ∨ r = 1 ∨ r = 2 ∨ r = 3 ∨ r = 4 ∨ r = 5 ∨ r = 6 ∨ r = 7 := by omega
        clear hr0 hr7
        rcases hrr with rfl | rfl | rfl | rfl | rfl | rfl | rfl | rfl
        · as_aux_lemma =>
          have HCH := Lib.hid (change_own HST5.out.set (some ⟨gt, 0, none⟩) x.n ct x.xs (HTWA.out.rd0 HXB.out (by omega)) (by have := HTWA.out.cap; omega) (by omega))
          go_wp2_with fail
          refine HCH.out.mono ?_; rintro e w6 (⟨hno, rfl, hS6, hB6⟩ | ⟨hok, AA, G, rfl, hl, hG, hS6, hK6, ca, hoa⟩)
          · have HST6 := Lib.hid (HST5.out.below hB6)
            have HTW6 := Lib.hid (HTWA.out.below hB6)
            have HK6 : Hid (Blk w6 X 54 CX) := Lib.hid (HK5.out.below hB6 HK5.out.lt)
            have HNO := Lib.hid hno
            have HRCH := Lib.hid (rchange_any HST6.out.rset x.A x.n x.c x.xs (HRX.out.below HST6.out.bel))
            obtain ⟨-, f1, -, -, -⟩ := HCELL.out w6 HK6.out
            clear hno hS6 hB6 HCH
            go_wp2_with fail
            refine HRCH.out.mono ?_; rintro e w7 (⟨-, rfl, hS7, hB7⟩ | ⟨hok, -⟩)
            · have HST7 := Lib.hid (HST6.out.below hB7)
              have HTW7 := Lib.hid (HTW6.out.below hB7)
              have HK7 : Hid (Blk w7 X 54 CX) := Lib.hid (HK6.out.below hB7 HK6.out.lt)
              have HSM := Lib.hid (same_trueP (c := 0) (d := 0) (rd_nil w7 .u32) (rd_nil w7 .u32) rfl)
              clear hS7 hB7 f1 HRCH
              go_wp2_with fail
              refine HSM.out.mono ?_; rintro e w8 ⟨rfl, hB8⟩
              have HST8 := Lib.hid (HST7.out.below hB8)
              have HTW8 := Lib.hid (HTW7.out.below hB8)
              have HK8 : Hid (Blk w8 X 54 CX) := Lib.hid (HK7.out.below hB8 HK7.out.lt)
              have HNOTE := Lib.hid (note_at HST8.out (A := none) (n := 0) (c := 0) (RowG.of_own (own_nil _ _ _ _)) (fun _ _ _ _ => by simp [Value.ownBlock]) (by omega) (by omega))
              have HOUT9 : Hid (Out S0 S1 (L7 ++ [⟨none, 0, 0, none, 0, 0, m + 1⟩])) := Lib.hid (fun h hh k hk => by
                rcases List.mem_append.1 hh with hh | hh
                · exact HOUT.out h hh k hk
                · rw [List.mem_singleton] at hh
                  subst hh
                  simp [Hb.l, Value.ownBlock] at hk)
              clear hB8 HSM
              obtain ⟨HB8, hbx, -⟩ := HST8.out.book
              obtain ⟨SB, hbox, -⟩ := hbx.box
              have HBOX := Lib.hid hbox
              clear hbx hbox
              go_wp2_with fail
              refine HNOTE.out.mono ?_; rintro e w9 ⟨rfl, h9, hK9⟩
              have HST9 := Lib.hid h9
              have HTW9 := Lib.hid (HTW8.out.book hK9 HBOX.out)
              have HK9 : Hid (Blk w9 X 54 CX) := Lib.hid (HK8.out.keep hK9 (byBook_ne HK8.out HBOX.out.lt ⟨_, HBOX.out⟩ (by decide)))
              clear h9 hK9
              go_wp2_with fail
              go_meet
              case rel => exact ⟨rfl, g', _, cr, gr, cc, _, csr, m + 1, _, HST9.out, HAL.out, HTW9.out, HK9.out, HOUT9.out, by omega⟩
            · exact absurd hok HNO.out
          · have HOK := Lib.hid hok
            have HST6 := Lib.hid (HST5.out.setP hS6 (Nat.le_trans HST5.out.bel.size hG) hK6)
            have HTW6 := Lib.hid (HTWA.out.keep hK6 HST5.out.set.set (by decide))
            have HK6 : Hid (Blk w6 X 54 CX) := Lib.hid (HK5.out.keep hK6 (fun e => blk_ne HK5.out HST5.out.set.set (by decide) e))
            have HOA := Lib.hid hoa
            have HRCH := Lib.hid (rchange_any HST6.out.rset x.A x.n x.c x.xs (HRX.out.below HST6.out.bel))
            have HOX := Lib.hid (others_len L x.xs)
            have HOE := Lib.hid (alike_others HAL.out x.xs)
            have HOM : Hid (∀ y ∈ othersL L x.xs, 0 ≤ y ∧ y ≤ 4294967295) := Lib.hid (fun y hy => HXB.out y (List.mem_filter.1 hy).1)
            obtain ⟨ys, hys⟩ : ∃ ys, othersL L x.xs = ys := ⟨_, rfl⟩
            rw [hys] at HOA HOX HOE HOM ⊢
            obtain ⟨q, hq⟩ : ∃ q, ys.length = q := ⟨_, rfl⟩
            rw [hq] at HOA HOX ⊢
            have HQ := Lib.hid hq
            obtain ⟨-, f1, -, -, -⟩ := HCELL.out w6 HK6.out
            clear hok hl hG hS6 hK6 hoa HCH hys hq
            go_wp2_with fail
            refine HRCH.out.mono ?_; rintro e w7 (⟨hno, -⟩ | ⟨-, A', m', c', GR, CR, CSR, rfl, hrd, hG7, hS7, hK7⟩)
            · exact absurd HOK.out hno
            · have HST7 := Lib.hid (HST6.out.rsetP hS7 (Nat.le_trans HST6.out.bel.size hG7) hK7)
              have HTW7 := Lib.hid (HTW6.out.keep hK7 HST6.out.rset.set (by decide))
              have HK7 : Hid (Blk w7 X 54 CX) := Lib.hid (HK6.out.keep hK7 (fun e => blk_ne HK6.out HST6.out.rset.set (by decide) e))
              have HOA7 := Lib.hid (hK7.own HOA.out (fun k hk e => own_blk_ne HOA.out HST6.out.rset.set (by decide) (by rw [hk, e])))
              have hxl : x.n ≤ 1500 := hxn
              have HSM := Lib.hid (same_trueP (c := q) (d := c') (own_rd32 HOA7.out HOM.out (by have := HOX.out; have := HXL.out; omega)) hrd HOE.out.symm)
              clear hrd hG7 hS7 hK7 f1 HRCH
              go_wp2_with fail
              refine HSM.out.mono ?_; rintro e w8 ⟨rfl, hB8⟩
              have HST8 := Lib.hid (HST7.out.below hB8)
              have HTW8 := Lib.hid (HTW7.out.below hB8)
              have HK8 : Hid (Blk w8 X 54 CX) := Lib.hid (HK7.out.below hB8 HK7.out.lt)
              have HOA8 := Lib.hid ((Keeps.of_below (M := fun _ => False) hB8).own HOA7.out (fun _ _ h => h))
              have HNOTE := Lib.hid (note_at HST8.out (A := AA) (n := q) (c := q) ⟨AA, q, ca, rfl, Nat.le_refl _, by obtain ⟨_, _, e, h, _⟩ := own_slice HOA8.out; injection e with _ _ e; omega, own_lower HOA8.out HST5.out.bel.size⟩ (fun h hh k hk e => by
                have h1 := HOLD.out h hh k hk
                have h2 := (own_base HOA8.out k (by rw [cap_block AA q ca q q]; exact e)).1
                have h3 := HS01.out
                omega) (by have := HOX.out; have := HXL.out; omega) (by omega))
              have HOUT9 : Hid (Out S0 S1 (L7 ++ [⟨AA, q, q, none, 0, 0, m + 1⟩])) := Lib.hid (fun h hh k hk => by
                rcases List.mem_append.1 hh with hh | hh
                · exact HOUT.out h hh k hk
                · rw [List.mem_singleton] at hh
                  subst hh
                  have h2 := (own_base HOA8.out k (by rw [cap_block AA q ca q q]; exact hk)).1
                  have h3 := HS01.out
                  omega)
              clear hB8 HSM
              obtain ⟨HB8, hbx, -⟩ := HST8.out.book
              obtain ⟨SB, hbox, -⟩ := hbx.box
              have HBOX := Lib.hid hbox
              clear hbx hbox
              go_wp2_with fail
              refine HNOTE.out.mono ?_; rintro e w9 ⟨rfl, h9, hK9⟩
              have HST9 := Lib.hid h9
              have HTW9 := Lib.hid (HTW8.out.book hK9 HBOX.out)
              have HK9 : Hid (Blk w9 X 54 CX) := Lib.hid (HK8.out.keep hK9 (byBook_ne HK8.out HBOX.out.lt ⟨_, HBOX.out⟩ (by decide)))
              clear h9 hK9
              go_wp2_with fail
              go_meet
              case rel => exact ⟨rfl, G, _, cr, GR, CR, _, CSR, m + 1, _, HST9.out, alike_change HAL.out x.xs, HTW9.out, HK9.out, HOUT9.out, by omega⟩
        · as_aux_lemma =>
          have HCH := Lib.hid (change_own HST5.out.set (some ⟨gt, 0, none⟩) x.n ct x.xs (HTWA.out.rd0 HXB.out (by omega)) (by have := HTWA.out.cap; omega) (by omega))
          go_wp2_with fail
          refine HCH.out.mono ?_; rintro e w6 (⟨hno, rfl, hS6, hB6⟩ | ⟨hok, AA, G, rfl, hl, hG, hS6, hK6, ca, hoa⟩)
          · have HST6 := Lib.hid (HST5.out.below hB6)
            have HTW6 := Lib.hid (HTWA.out.below hB6)
            have HK6 : Hid (Blk w6 X 54 CX) := Lib.hid (HK5.out.below hB6 HK5.out.lt)
            have HNO := Lib.hid hno
            have HRCH := Lib.hid (rchange_any HST6.out.rset x.A x.n x.c x.xs (HRX.out.below HST6.out.bel))
            obtain ⟨-, f1, -, -, -⟩ := HCELL.out w6 HK6.out
            clear hno hS6 hB6 HCH
            go_wp2_with fail
            refine HRCH.out.mono ?_; rintro e w7 (⟨-, rfl, hS7, hB7⟩ | ⟨hok, -⟩)
            · have HST7 := Lib.hid (HST6.out.below hB7)
              have HTW7 := Lib.hid (HTW6.out.below hB7)
              have HK7 : Hid (Blk w7 X 54 CX) := Lib.hid (HK6.out.below hB7 HK6.out.lt)
              have HSM := Lib.hid (same_trueP (c := 0) (d := 0) (rd_nil w7 .u32) (rd_nil w7 .u32) rfl)
              clear hS7 hB7 f1 HRCH
              go_wp2_with fail
              refine HSM.out.mono ?_; rintro e w8 ⟨rfl, hB8⟩
              have HST8 := Lib.hid (HST7.out.below hB8)
              have HTW8 := Lib.hid (HTW7.out.below hB8)
              have HK8 : Hid (Blk w8 X 54 CX) := Lib.hid (HK7.out.below hB8 HK7.out.lt)
              have HNOTE := Lib.hid (note_at HST8.out (A := none) (n := 0) (c := 0) (RowG.of_own (own_nil _ _ _ _)) (fun _ _ _ _ => by simp [Value.ownBlock]) (by omega) (by omega))
              have HOUT9 : Hid (Out S0 S1 (L7 ++ [⟨none, 0, 0, none, 0, 0, m + 1⟩])) := Lib.hid (fun h hh k hk => by
                rcases List.mem_append.1 hh with hh | hh
                · exact HOUT.out h hh k hk
                · rw [List.mem_singleton] at hh
                  subst hh
                  simp [Hb.l, Value.ownBlock] at hk)
              clear hB8 HSM
              obtain ⟨HB8, hbx, -⟩ := HST8.out.book
              obtain ⟨SB, hbox, -⟩ := hbx.box
              have HBOX := Lib.hid hbox
              clear hbx hbox
              go_wp2_with fail
              refine HNOTE.out.mono ?_; rintro e w9 ⟨rfl, h9, hK9⟩
              have HST9 := Lib.hid h9
              have HTW9 := Lib.hid (HTW8.out.book hK9 HBOX.out)
              have HK9 : Hid (Blk w9 X 54 CX) := Lib.hid (HK8.out.keep hK9 (byBook_ne HK8.out HBOX.out.lt ⟨_, HBOX.out⟩ (by decide)))
              clear h9 hK9
              go_wp2_with fail
              go_meet
              case rel => exact ⟨rfl, g', _, cr, gr, cc, _, csr, m + 1, _, HST9.out, HAL.out, HTW9.out, HK9.out, HOUT9.out, by omega⟩
            · exact absurd hok HNO.out
          · have HOK := Lib.hid hok
            have HST6 := Lib.hid (HST5.out.setP hS6 (Nat.le_trans HST5.out.bel.size hG) hK6)
            have HTW6 := Lib.hid (HTWA.out.keep hK6 HST5.out.set.set (by decide))
            have HK6 : Hid (Blk w6 X 54 CX) := Lib.hid (HK5.out.keep hK6 (fun e => blk_ne HK5.out HST5.out.set.set (by decide) e))
            have HOA := Lib.hid hoa
            have HRCH := Lib.hid (rchange_any HST6.out.rset x.A x.n x.c x.xs (HRX.out.below HST6.out.bel))
            have HOX := Lib.hid (others_len L x.xs)
            have HOE := Lib.hid (alike_others HAL.out x.xs)
            have HOM : Hid (∀ y ∈ othersL L x.xs, 0 ≤ y ∧ y ≤ 4294967295) := Lib.hid (fun y hy => HXB.out y (List.mem_filter.1 hy).1)
            obtain ⟨ys, hys⟩ : ∃ ys, othersL L x.xs = ys := ⟨_, rfl⟩
            rw [hys] at HOA HOX HOE HOM ⊢
            obtain ⟨q, hq⟩ : ∃ q, ys.length = q := ⟨_, rfl⟩
            rw [hq] at HOA HOX ⊢
            have HQ := Lib.hid hq
            obtain ⟨-, f1, -, -, -⟩ := HCELL.out w6 HK6.out
            clear hok hl hG hS6 hK6 hoa HCH hys hq
            go_wp2_with fail
            refine HRCH.out.mono ?_; rintro e w7 (⟨hno, -⟩ | ⟨-, A', m', c', GR, CR, CSR, rfl, hrd, hG7, hS7, hK7⟩)
            · exact absurd HOK.out hno
            · have HST7 := Lib.hid (HST6.out.rsetP hS7 (Nat.le_trans HST6.out.bel.size hG7) hK7)
              have HTW7 := Lib.hid (HTW6.out.keep hK7 HST6.out.rset.set (by decide))
              have HK7 : Hid (Blk w7 X 54 CX) := Lib.hid (HK6.out.keep hK7 (fun e => blk_ne HK6.out HST6.out.rset.set (by decide) e))
              have HOA7 := Lib.hid (hK7.own HOA.out (fun k hk e => own_blk_ne HOA.out HST6.out.rset.set (by decide) (by rw [hk, e])))
              have hxl : x.n ≤ 1500 := hxn
              have HSM := Lib.hid (same_trueP (c := q) (d := c') (own_rd32 HOA7.out HOM.out (by have := HOX.out; have := HXL.out; omega)) hrd HOE.out.symm)
              clear hrd hG7 hS7 hK7 f1 HRCH
              go_wp2_with fail
              refine HSM.out.mono ?_; rintro e w8 ⟨rfl, hB8⟩
              have HST8 := Lib.hid (HST7.out.below hB8)
              have HTW8 := Lib.hid (HTW7.out.below hB8)
              have HK8 : Hid (Blk w8 X 54 CX) := Lib.hid (HK7.out.below hB8 HK7.out.lt)
              have HOA8 := Lib.hid ((Keeps.of_below (M := fun _ => False) hB8).own HOA7.out (fun _ _ h => h))
              have HNOTE := Lib.hid (note_at HST8.out (A := AA) (n := q) (c := q) ⟨AA, q, ca, rfl, Nat.le_refl _, by obtain ⟨_, _, e, h, _⟩ := own_slice HOA8.out; injection e with _ _ e; omega, own_lower HOA8.out HST5.out.bel.size⟩ (fun h hh k hk e => by
                have h1 := HOLD.out h hh k hk
                have h2 := (own_base HOA8.out k (by rw [cap_block AA q ca q q]; exact e)).1
                have h3 := HS01.out
                omega) (by have := HOX.out; have := HXL.out; omega) (by omega))
              have HOUT9 : Hid (Out S0 S1 (L7 ++ [⟨AA, q, q, none, 0, 0, m + 1⟩])) := Lib.hid (fun h hh k hk => by
                rcases List.mem_append.1 hh with hh | hh
                · exact HOUT.out h hh k hk
                · rw [List.mem_singleton] at hh
                  subst hh
                  have h2 := (own_base HOA8.out k (by rw [cap_block AA q ca q q]; exact hk)).1
                  have h3 := HS01.out
                  omega)
              clear hB8 HSM
              obtain ⟨HB8, hbx, -⟩ := HST8.out.book
              obtain ⟨SB, hbox, -⟩ := hbx.box
              have HBOX := Lib.hid hbox
              clear hbx hbox
              go_wp2_with fail
              refine HNOTE.out.mono ?_; rintro e w9 ⟨rfl, h9, hK9⟩
              have HST9 := Lib.hid h9
              have HTW9 := Lib.hid (HTW8.out.book hK9 HBOX.out)
              have HK9 : Hid (Blk w9 X 54 CX) := Lib.hid (HK8.out.keep hK9 (byBook_ne HK8.out HBOX.out.lt ⟨_, HBOX.out⟩ (by decide)))
              clear h9 hK9
              go_wp2_with fail
              go_meet
              case rel => exact ⟨rfl, G, _, cr, GR, CR, _, CSR, m + 1, _, HST9.out, alike_change HAL.out x.xs, HTW9.out, HK9.out, HOUT9.out, by omega⟩
        · as_aux_lemma =>
          obtain ⟨E, hE⟩ : ∃ E, askE L x.spot = E := ⟨_, rfl⟩
          have HRE : Hid (raskE R x.spot = E) := Lib.hid ((alike_askE HAL.out x.spot).trans hE)
          have HSTd := Lib.hid (HST5.out.below drewS)
          have HTWd := Lib.hid (HTWA.out.below drewS)
          have HKd : Hid (Blk w5.drew X 54 CX) := HK5
          have HASK := Lib.hid (ask_at HSTd.out.set x.spot x.sum HOKX.out.sum E hE (fun Y => askL L x.spot Y x.sum) (fun _ => rfl))
          clear hE
          obtain ⟨-, -, d2, d3, -⟩ := HCELL.out w5 HK5.out
          go_upto_region 21 with fail
          refine wp_region_noPanic ?_
          refine wp_region_held_drew (S := (fun w' => w'.cell? ⟨X, 2, none⟩ = some (.int .u32 x.spot) ∧ w'.rangeAt X 3 (x.sum.map (Value.int .u8)))) (by kernel_rfl) ?_ (fun hHeld => ?_)
          · ((try dsimp only); refine ⟨?_, ?_⟩ <;> (first | assumption | (go_keep; done)))
          refine wpAnyH_take (i := 0) (oi := ⟨some 95, _, _, _, _, _⟩) (v := ?_) rfl (by kernel_rfl) (by kernel_rfl) (by kernel_rfl) (fun _ _ _ h => False.elim h) (Or.inl ⟨by rfl, ?_⟩) (by assumption) ?_
          rotate_left
          · intro w hSw
            (try dsimp only at hSw)
            go_simp
            all_goals with_reducible rfl
          (try simp only [Act.put, List.setIfInBounds_toArray, List.set_cons_zero, List.set_cons_succ])
          refine wpAnyH_take (i := 1) (oi := ⟨some 96, _, _, _, _, _⟩) (v := ?_) rfl (by kernel_rfl) (by kernel_rfl) (by kernel_rfl) (fun _ _ _ h => False.elim h) (Or.inl ⟨by rfl, ?_⟩) (by assumption) ?_
          rotate_left
          · intro w hSw
            (try dsimp only at hSw)
            go_simp
            all_goals with_reducible rfl
          (try simp only [Act.put, List.setIfInBounds_toArray, List.set_cons_zero, List.set_cons_succ])
          refine wpAnyH_take (i := 2) (oi := ⟨some 97, _, _, _, _, _⟩) (v := ?_) rfl (by kernel_rfl) (by kernel_rfl) (by kernel_rfl) (fun _ _ _ h => False.elim h) (Or.inl ⟨by rfl, ?_⟩) (by assumption) ?_
          rotate_left
          · intro w hSw
            (try dsimp only at hSw)
            go_simp
            all_goals with_reducible rfl
          (try simp only [Act.put, List.setIfInBounds_toArray, List.set_cons_zero, List.set_cons_succ])
          refine wpAnyH_take (i := 3) (oi := ⟨some 98, _, _, _, _, _⟩) (v := ?_) rfl (by kernel_rfl) (by kernel_rfl) (by kernel_rfl) (fun _ _ _ h => False.elim h) (Or.inl ⟨by rfl, ?_⟩) (by assumption) ?_
          rotate_left
          · intro w hSw
            (try dsimp only at hSw)
            go_simp
            all_goals with_reducible rfl
          (try simp only [Act.put, List.setIfInBounds_toArray, List.set_cons_zero, List.set_cons_succ])
          refine wpAnyH_take (i := 4) (oi := ⟨some 99, _, _, _, _, _⟩) (v := .agg (x.sum.map (Value.int .u8)).toArray) rfl (by kernel_rfl) (by kernel_rfl) (by kernel_rfl) (fun _ _ _ h => False.elim h) ?_ (by assumption) ?_
          · refine yieldsIf_load_mid ?_ 52 _ rfl X 3 rfl (x.sum.map (Value.int .u8)) _ ?_ HU.out rfl HSZM.out
            · rfl
            · (intro w hSw; (try dsimp only at hSw); go_split_ands; assumption)
          (try simp only [Act.put, List.setIfInBounds_toArray, List.set_cons_zero, List.set_cons_succ])
          refine wpAnyH_take (i := 6) (oi := ⟨some 101, _, _, _, _, _⟩) (v := ?_) rfl (by kernel_rfl) (by kernel_rfl) (by kernel_rfl) (fun _ _ _ h => False.elim h) (Or.inl ⟨by rfl, ?_⟩) (by assumption) ?_
          rotate_left
          · intro w hSw
            (try dsimp only at hSw)
            go_simp
            all_goals with_reducible rfl
          (try simp only [Act.put, List.setIfInBounds_toArray, List.set_cons_zero, List.set_cons_succ])
          refine wpAnyH_take (i := 7) (oi := ⟨some 102, _, _, _, _, _⟩) (v := ?_) rfl (by kernel_rfl) (by kernel_rfl) (by kernel_rfl) (fun _ _ _ h => False.elim h) (Or.inl ⟨by rfl, ?_⟩) (by assumption) ?_
          rotate_left
          · intro w hSw
            (try dsimp only at hSw)
            go_simp
            all_goals with_reducible rfl
          (try simp only [Act.put, List.setIfInBounds_toArray, List.set_cons_zero, List.set_cons_succ])
          refine wpAnyH_take (i := 8) (oi := ⟨some 103, _, _, _, _, _⟩) (v := ?_) rfl (by kernel_rfl) (by kernel_rfl) (by kernel_rfl) (fun _ _ _ h => False.elim h) (Or.inl ⟨by rfl, ?_⟩) (by assumption) ?_
          rotate_left
          · intro w hSw
            (try dsimp only at hSw)
            go_simp
            all_goals with_reducible rfl
          (try simp only [Act.put, List.setIfInBounds_toArray, List.set_cons_zero, List.set_cons_succ])
          refine wpAnyH_take (i := 9) (oi := ⟨some 104, _, _, _, _, _⟩) (v := ?_) rfl (by kernel_rfl) (by kernel_rfl) (by kernel_rfl) (fun _ _ _ h => False.elim h) (Or.inl ⟨by rfl, ?_⟩) (by assumption) ?_
          rotate_left
          · intro w hSw
            (try dsimp only at hSw)
            go_simp
            all_goals with_reducible rfl
          (try simp only [Act.put, List.setIfInBounds_toArray, List.set_cons_zero, List.set_cons_succ])
          refine wpAnyH_take (i := 10) (oi := ⟨some 105, _, _, _, _, _⟩) (v := .agg (x.sum.map (Value.int .u8)).toArray) rfl (by kernel_rfl) (by kernel_rfl) (by kernel_rfl) (fun _ _ _ h => False.elim h) ?_ (by assumption) ?_
          · refine yieldsIf_load_mid ?_ 52 _ rfl X 3 rfl (x.sum.map (Value.int .u8)) _ ?_ HU.out rfl HSZM.out
            · rfl
            · (intro w hSw; (try dsimp only at hSw); go_split_ands; assumption)
          (try simp only [Act.put, List.setIfInBounds_toArray, List.set_cons_zero, List.set_cons_succ])
          refine wpAnyH_ready (rs := [5]) (by kernel_rfl) (by simp) ?_
          refine AllReadyH.cons (o := ⟨some 100, _, _, _, _, _⟩) rfl (fun K hK => ?_) AllReadyH.nil
          go_simp
          (refine HASK.out.mono ?_; rintro e w6 ⟨Y, rfl, hS6, hK6⟩; have HST6 := Lib.hid (HSTd.out.setG hS6 hK6); have HTW6 := Lib.hid (HTWd.out.keep hK6 HSTd.out.set.row (by decide)); have HK6 : Hid (Blk w6 X 54 CX) := Lib.hid (HKd.out.keep hK6 (fun e => blk_ne HKd.out HSTd.out.set.row (by decide) e)); have HRASK := Lib.hid (rask_any HST6.out.rset x.spot x.sum HOKX.out.sum); obtain ⟨-, -, f2, f3, -⟩ := HCELL.out w6 HK6.out; clear hS6 hK6)
          (try go_wp2_with fail)
          refine hK.out _ _ ?_ (fun hHeld => ?_)
          · ((try dsimp only); refine ⟨?_, ?_⟩ <;> (first | assumption | (go_keep; done)))
          clear hK K
          (try simp only [Act.put, List.setIfInBounds_toArray, List.set_cons_zero, List.set_cons_succ])
          refine wpAnyH_ready (rs := [11]) (by kernel_rfl) (by simp) ?_
          refine AllReadyH.cons (o := ⟨some 106, _, _, _, _, _⟩) rfl (fun K hK => ?_) AllReadyH.nil
          go_simp
          (refine HRASK.out.mono ?_; rintro e w7 ⟨rfl, hS7, hK7⟩; rw [HRE.out]; have HST7 := Lib.hid (HST6.out.rsetG hS7 hK7); have HTW7 := Lib.hid (HTW6.out.keep hK7 HST6.out.rset.row (by decide)); have HK7 : Hid (Blk w7 X 54 CX) := Lib.hid (HK6.out.keep hK7 (fun e => blk_ne HK6.out HST6.out.rset.row (by decide) e)); obtain ⟨-, -, g2, g3, -⟩ := HCELL.out w7 HK7.out; clear hS7 hK7)
          (try go_wp2_with fail)
          refine hK.out _ _ ?_ (fun hHeld => ?_)
          · ((try dsimp only); refine ⟨?_, ?_⟩ <;> (first | assumption | (go_keep; done)))
          clear hK K
          (try simp only [Act.put, List.setIfInBounds_toArray, List.set_cons_zero, List.set_cons_succ])
          refine wpAnyH_take (i := 12) (oi := ⟨some 107, _, _, _, _, _⟩) (v := ?_) rfl (by kernel_rfl) (by kernel_rfl) (by kernel_rfl) (fun _ _ _ h => False.elim h) (Or.inl ⟨by rfl, ?_⟩) (by assumption) ?_
          rotate_left
          · intro w hSw
            (try dsimp only at hSw)
            go_simp
            all_goals with_reducible rfl
          (try simp only [Act.put, List.setIfInBounds_toArray, List.set_cons_zero, List.set_cons_succ])
          refine wpAnyH_done (by kernel_rfl) ?_ _
          refine NoPanic.normal ?_
          go_wp2_with fail
          go_meet
          case rel => exact ⟨rfl, g', _, cr, gr, cc, _, csr, m, L7, HST7.out, alike_ask HAL.out x.spot Y x.sum, HTW7.out, HK7.out, HOUT.out, by omega⟩
        · as_aux_lemma =>
          obtain ⟨E, hE⟩ : ∃ E, askE L x.spot = E := ⟨_, rfl⟩
          have HRE : Hid (raskE R x.spot = E) := Lib.hid ((alike_askE HAL.out x.spot).trans hE)
          have HSTd := Lib.hid (HST5.out.below drewS)
          have HTWd := Lib.hid (HTWA.out.below drewS)
          have HKd : Hid (Blk w5.drew X 54 CX) := HK5
          have HASK := Lib.hid (ask_at HSTd.out.set x.spot x.sum HOKX.out.sum E hE (fun Y => askL L x.spot Y x.sum) (fun _ => rfl))
          clear hE
          obtain ⟨-, -, d2, d3, -⟩ := HCELL.out w5 HK5.out
          go_upto_region 21 with fail
          refine wp_region_noPanic ?_
          refine wp_region_held_drew (S := (fun w' => w'.cell? ⟨X, 2, none⟩ = some (.int .u32 x.spot) ∧ w'.rangeAt X 3 (x.sum.map (Value.int .u8)))) (by kernel_rfl) ?_ (fun hHeld => ?_)
          · ((try dsimp only); refine ⟨?_, ?_⟩ <;> (first | assumption | (go_keep; done)))
          refine wpAnyH_take (i := 0) (oi := ⟨some 95, _, _, _, _, _⟩) (v := ?_) rfl (by kernel_rfl) (by kernel_rfl) (by kernel_rfl) (fun _ _ _ h => False.elim h) (Or.inl ⟨by rfl, ?_⟩) (by assumption) ?_
          rotate_left
          · intro w hSw
            (try dsimp only at hSw)
            go_simp
            all_goals with_reducible rfl
          (try simp only [Act.put, List.setIfInBounds_toArray, List.set_cons_zero, List.set_cons_succ])
          refine wpAnyH_take (i := 1) (oi := ⟨some 96, _, _, _, _, _⟩) (v := ?_) rfl (by kernel_rfl) (by kernel_rfl) (by kernel_rfl) (fun _ _ _ h => False.elim h) (Or.inl ⟨by rfl, ?_⟩) (by assumption) ?_
          rotate_left
          · intro w hSw
            (try dsimp only at hSw)
            go_simp
            all_goals with_reducible rfl
          (try simp only [Act.put, List.setIfInBounds_toArray, List.set_cons_zero, List.set_cons_succ])
          refine wpAnyH_take (i := 2) (oi := ⟨some 97, _, _, _, _, _⟩) (v := ?_) rfl (by kernel_rfl) (by kernel_rfl) (by kernel_rfl) (fun _ _ _ h => False.elim h) (Or.inl ⟨by rfl, ?_⟩) (by assumption) ?_
          rotate_left
          · intro w hSw
            (try dsimp only at hSw)
            go_simp
            all_goals with_reducible rfl
          (try simp only [Act.put, List.setIfInBounds_toArray, List.set_cons_zero, List.set_cons_succ])
          refine wpAnyH_take (i := 3) (oi := ⟨some 98, _, _, _, _, _⟩) (v := ?_) rfl (by kernel_rfl) (by kernel_rfl) (by kernel_rfl) (fun _ _ _ h => False.elim h) (Or.inl ⟨by rfl, ?_⟩) (by assumption) ?_
          rotate_left
          · intro w hSw
            (try dsimp only at hSw)
            go_simp
            all_goals with_reducible rfl
          (try simp only [Act.put, List.setIfInBounds_toArray, List.set_cons_zero, List.set_cons_succ])
          refine wpAnyH_take (i := 4) (oi := ⟨some 99, _, _, _, _, _⟩) (v := .agg (x.sum.map (Value.int .u8)).toArray) rfl (by kernel_rfl) (by kernel_rfl) (by kernel_rfl) (fun _ _ _ h => False.elim h) ?_ (by assumption) ?_
          · refine yieldsIf_load_mid ?_ 52 _ rfl X 3 rfl (x.sum.map (Value.int .u8)) _ ?_ HU.out rfl HSZM.out
            · rfl
            · (intro w hSw; (try dsimp only at hSw); go_split_ands; assumption)
          (try simp only [Act.put, List.setIfInBounds_toArray, List.set_cons_zero, List.set_cons_succ])
          refine wpAnyH_take (i := 6) (oi := ⟨some 101, _, _, _, _, _⟩) (v := ?_) rfl (by kernel_rfl) (by kernel_rfl) (by kernel_rfl) (fun _ _ _ h => False.elim h) (Or.inl ⟨by rfl, ?_⟩) (by assumption) ?_
          rotate_left
          · intro w hSw
            (try dsimp only at hSw)
            go_simp
            all_goals with_reducible rfl
          (try simp only [Act.put, List.setIfInBounds_toArray, List.set_cons_zero, List.set_cons_succ])
          refine wpAnyH_take (i := 7) (oi := ⟨some 102, _, _, _, _, _⟩) (v := ?_) rfl (by kernel_rfl) (by kernel_rfl) (by kernel_rfl) (fun _ _ _ h => False.elim h) (Or.inl ⟨by rfl, ?_⟩) (by assumption) ?_
          rotate_left
          · intro w hSw
            (try dsimp only at hSw)
            go_simp
            all_goals with_reducible rfl
          (try simp only [Act.put, List.setIfInBounds_toArray, List.set_cons_zero, List.set_cons_succ])
          refine wpAnyH_take (i := 8) (oi := ⟨some 103, _, _, _, _, _⟩) (v := ?_) rfl (by kernel_rfl) (by kernel_rfl) (by kernel_rfl) (fun _ _ _ h => False.elim h) (Or.inl ⟨by rfl, ?_⟩) (by assumption) ?_
          rotate_left
          · intro w hSw
            (try dsimp only at hSw)
            go_simp
            all_goals with_reducible rfl
          (try simp only [Act.put, List.setIfInBounds_toArray, List.set_cons_zero, List.set_cons_succ])
          refine wpAnyH_take (i := 9) (oi := ⟨some 104, _, _, _, _, _⟩) (v := ?_) rfl (by kernel_rfl) (by kernel_rfl) (by kernel_rfl) (fun _ _ _ h => False.elim h) (Or.inl ⟨by rfl, ?_⟩) (by assumption) ?_
          rotate_left
          · intro w hSw
            (try dsimp only at hSw)
            go_simp
            all_goals with_reducible rfl
          (try simp only [Act.put, List.setIfInBounds_toArray, List.set_cons_zero, List.set_cons_succ])
          refine wpAnyH_take (i := 10) (oi := ⟨some 105, _, _, _, _, _⟩) (v := .agg (x.sum.map (Value.int .u8)).toArray) rfl (by kernel_rfl) (by kernel_rfl) (by kernel_rfl) (fun _ _ _ h => False.elim h) ?_ (by assumption) ?_
          · refine yieldsIf_load_mid ?_ 52 _ rfl X 3 rfl (x.sum.map (Value.int .u8)) _ ?_ HU.out rfl HSZM.out
            · rfl
            · (intro w hSw; (try dsimp only at hSw); go_split_ands; assumption)
          (try simp only [Act.put, List.setIfInBounds_toArray, List.set_cons_zero, List.set_cons_succ])
          refine wpAnyH_ready (rs := [5]) (by kernel_rfl) (by simp) ?_
          refine AllReadyH.cons (o := ⟨some 100, _, _, _, _, _⟩) rfl (fun K hK => ?_) AllReadyH.nil
          go_simp
          (refine HASK.out.mono ?_; rintro e w6 ⟨Y, rfl, hS6, hK6⟩; have HST6 := Lib.hid (HSTd.out.setG hS6 hK6); have HTW6 := Lib.hid (HTWd.out.keep hK6 HSTd.out.set.row (by decide)); have HK6 : Hid (Blk w6 X 54 CX) := Lib.hid (HKd.out.keep hK6 (fun e => blk_ne HKd.out HSTd.out.set.row (by decide) e)); have HRASK := Lib.hid (rask_any HST6.out.rset x.spot x.sum HOKX.out.sum); obtain ⟨-, -, f2, f3, -⟩ := HCELL.out w6 HK6.out; clear hS6 hK6)
          (try go_wp2_with fail)
          refine hK.out _ _ ?_ (fun hHeld => ?_)
          · ((try dsimp only); refine ⟨?_, ?_⟩ <;> (first | assumption | (go_keep; done)))
          clear hK K
          (try simp only [Act.put, List.setIfInBounds_toArray, List.set_cons_zero, List.set_cons_succ])
          refine wpAnyH_ready (rs := [11]) (by kernel_rfl) (by simp) ?_
          refine AllReadyH.cons (o := ⟨some 106, _, _, _, _, _⟩) rfl (fun K hK => ?_) AllReadyH.nil
          go_simp
          (refine HRASK.out.mono ?_; rintro e w7 ⟨rfl, hS7, hK7⟩; rw [HRE.out]; have HST7 := Lib.hid (HST6.out.rsetG hS7 hK7); have HTW7 := Lib.hid (HTW6.out.keep hK7 HST6.out.rset.row (by decide)); have HK7 : Hid (Blk w7 X 54 CX) := Lib.hid (HK6.out.keep hK7 (fun e => blk_ne HK6.out HST6.out.rset.row (by decide) e)); obtain ⟨-, -, g2, g3, -⟩ := HCELL.out w7 HK7.out; clear hS7 hK7)
          (try go_wp2_with fail)
          refine hK.out _ _ ?_ (fun hHeld => ?_)
          · ((try dsimp only); refine ⟨?_, ?_⟩ <;> (first | assumption | (go_keep; done)))
          clear hK K
          (try simp only [Act.put, List.setIfInBounds_toArray, List.set_cons_zero, List.set_cons_succ])
          refine wpAnyH_take (i := 12) (oi := ⟨some 107, _, _, _, _, _⟩) (v := ?_) rfl (by kernel_rfl) (by kernel_rfl) (by kernel_rfl) (fun _ _ _ h => False.elim h) (Or.inl ⟨by rfl, ?_⟩) (by assumption) ?_
          rotate_left
          · intro w hSw
            (try dsimp only at hSw)
            go_simp
            all_goals with_reducible rfl
          (try simp only [Act.put, List.setIfInBounds_toArray, List.set_cons_zero, List.set_cons_succ])
          refine wpAnyH_done (by kernel_rfl) ?_ _
          refine NoPanic.normal ?_
          go_wp2_with fail
          go_meet
          case rel => exact ⟨rfl, g', _, cr, gr, cc, _, csr, m, L7, HST7.out, alike_ask HAL.out x.spot Y x.sum, HTW7.out, HK7.out, HOUT.out, by omega⟩
        · as_aux_lemma =>
          obtain ⟨a, E, hE⟩ : ∃ a E, backE L x.sum = (a, E) := ⟨_, _, rfl⟩
          have HRE : Hid (rbackE R x.sum = (a, E)) := Lib.hid ((alike_backE HAL.out x.sum).trans hE)
          have HBACK := Lib.hid (back_at HST5.out.set x.sum HOKX.out.sum a E hE (backL L x.sum) rfl)
          clear hE
          obtain ⟨-, -, d2, d3, -⟩ := HCELL.out w5 HK5.out
          go_wp2_with ((with_reducible refine wpList_isS (o := ⟨some 114, .load _ _, _, _, _, _⟩) ?_); refine wpList_want (v := .agg (x.sum.map (Value.int .u8)).toArray) (w' := _) (by rfl) (exec_loadM rfl X 3 rfl (x.sum.map (Value.int .u8)) _ d3 HU.out rfl HSZM.out) ?_)
          refine HBACK.out.mono ?_; rintro e w6 ⟨rfl, hS6, hK6⟩
          have HST6 := Lib.hid (HST5.out.setG hS6 hK6)
          have HTW6 := Lib.hid (HTWA.out.keep hK6 HST5.out.set.row (by decide))
          have HK6 : Hid (Blk w6 X 54 CX) := Lib.hid (HK5.out.keep hK6 (fun e => blk_ne HK5.out HST5.out.set.row (by decide) e))
          have HRB := Lib.hid (rback_any HST6.out.rset x.sum HOKX.out.sum)
          obtain ⟨-, -, f2, f3, -⟩ := HCELL.out w6 HK6.out
          clear hS6 hK6 d2 d3
          go_wp2_with ((with_reducible refine wpList_isS (o := ⟨some 121, .load _ _, _, _, _, _⟩) ?_); refine wpList_want (v := .agg (x.sum.map (Value.int .u8)).toArray) (w' := _) (by rfl) (exec_loadM rfl X 3 rfl (x.sum.map (Value.int .u8)) _ f3 HU.out rfl HSZM.out) ?_)
          refine HRB.out.mono ?_; rintro e w7 ⟨rfl, hS7, hK7⟩
          rw [HRE.out]
          dsimp only
          have HST7 := Lib.hid (HST6.out.rsetG hS7 hK7)
          have HTW7 := Lib.hid (HTW6.out.keep hK7 HST6.out.rset.row (by decide))
          have HK7 : Hid (Blk w7 X 54 CX) := Lib.hid (HK6.out.keep hK7 (fun e => blk_ne HK6.out HST6.out.rset.row (by decide) e))
          clear hS7 hK7 f2 f3
          go_wp2_with fail
          go_meet
          case rel => exact ⟨rfl, g', _, cr, gr, cc, _, csr, m, L7, HST7.out, alike_back HAL.out x.sum, HTW7.out, HK7.out, HOUT.out, by omega⟩
        · as_aux_lemma =>
          obtain ⟨a, E, hE⟩ : ∃ a E, backE L x.sum = (a, E) := ⟨_, _, rfl⟩
          have HRE : Hid (rbackE R x.sum = (a, E)) := Lib.hid ((alike_backE HAL.out x.sum).trans hE)
          have HBACK := Lib.hid (back_at HST5.out.set x.sum HOKX.out.sum a E hE (backL L x.sum) rfl)
          clear hE
          obtain ⟨-, -, d2, d3, -⟩ := HCELL.out w5 HK5.out
          go_wp2_with ((with_reducible refine wpList_isS (o := ⟨some 114, .load _ _, _, _, _, _⟩) ?_); refine wpList_want (v := .agg (x.sum.map (Value.int .u8)).toArray) (w' := _) (by rfl) (exec_loadM rfl X 3 rfl (x.sum.map (Value.int .u8)) _ d3 HU.out rfl HSZM.out) ?_)
          refine HBACK.out.mono ?_; rintro e w6 ⟨rfl, hS6, hK6⟩
          have HST6 := Lib.hid (HST5.out.setG hS6 hK6)
          have HTW6 := Lib.hid (HTWA.out.keep hK6 HST5.out.set.row (by decide))
          have HK6 : Hid (Blk w6 X 54 CX) := Lib.hid (HK5.out.keep hK6 (fun e => blk_ne HK5.out HST5.out.set.row (by decide) e))
          have HRB := Lib.hid (rback_any HST6.out.rset x.sum HOKX.out.sum)
          obtain ⟨-, -, f2, f3, -⟩ := HCELL.out w6 HK6.out
          clear hS6 hK6 d2 d3
          go_wp2_with ((with_reducible refine wpList_isS (o := ⟨some 121, .load _ _, _, _, _, _⟩) ?_); refine wpList_want (v := .agg (x.sum.map (Value.int .u8)).toArray) (w' := _) (by rfl) (exec_loadM rfl X 3 rfl (x.sum.map (Value.int .u8)) _ f3 HU.out rfl HSZM.out) ?_)
          refine HRB.out.mono ?_; rintro e w7 ⟨rfl, hS7, hK7⟩
          rw [HRE.out]
          dsimp only
          have HST7 := Lib.hid (HST6.out.rsetG hS7 hK7)
          have HTW7 := Lib.hid (HTW6.out.keep hK7 HST6.out.rset.row (by decide))
          have HK7 : Hid (Blk w7 X 54 CX) := Lib.hid (HK6.out.keep hK7 (fun e => blk_ne HK6.out HST6.out.rset.row (by decide) e))
          clear hS7 hK7 f2 f3
          go_wp2_with fail
          go_meet
          case rel => exact ⟨rfl, g', _, cr, gr, cc, _, csr, m, L7, HST7.out, alike_back HAL.out x.sum, HTW7.out, HK7.out, HOUT.out, by omega⟩
        · as_aux_lemma =>
          have HCA := Lib.hid (came_any HST5.out.set x.bytes HOKX.out.bytes)
          obtain ⟨-, -, -, -, d4⟩ := HCELL.out w5 HK5.out
          go_wp2_with fail
          refine HCA.out.mono ?_; rintro e w6 ⟨rfl, hS6, hK6⟩
          have HST6 := Lib.hid (HST5.out.setP hS6 HST5.out.gb hK6)
          have HTW6 := Lib.hid (HTWA.out.keep hK6 HST5.out.set.set (by decide))
          have HK6 : Hid (Blk w6 X 54 CX) := Lib.hid (HK5.out.keep hK6 (fun e => blk_ne HK5.out HST5.out.set.set (by decide) e))
          have HRC := Lib.hid (rcame_any HST6.out.rset x.bytes HOKX.out.bytes)
          obtain ⟨-, -, -, -, f4⟩ := HCELL.out w6 HK6.out
          clear hS6 hK6 d4
          go_wp2_with fail
          refine HRC.out.mono ?_; rintro e w7 ⟨rfl, hS7, hK7⟩
          have HST7 := Lib.hid (HST6.out.rsetP hS7 HST6.out.gb' hK7)
          have HTW7 := Lib.hid (HTW6.out.keep hK7 HST6.out.rset.set (by decide))
          have HK7 : Hid (Blk w7 X 54 CX) := Lib.hid (HK6.out.keep hK7 (fun e => blk_ne HK6.out HST6.out.rset.set (by decide) e))
          clear hS7 hK7 f4
          go_wp2_with fail
          go_meet
          case rel => exact ⟨rfl, g', _, _, gr, cc, _, csr, m, L7, HST7.out, HAL.out, HTW7.out, HK7.out, HOUT.out, by omega⟩
        · as_aux_lemma =>
          obtain ⟨E, hE⟩ : ∃ E, spendE L cr x.bytes = E := ⟨_, rfl⟩
          obtain ⟨C2, hC⟩ : ∃ C, spendC L cr x.bytes = C := ⟨_, rfl⟩
          have HRE : Hid (rspendE R cr x.bytes = E) := Lib.hid ((alike_spendE HAL.out cr x.bytes).trans hE)
          have HRC : Hid (rspendC R cr x.bytes = C2) := Lib.hid ((alike_spendC HAL.out cr x.bytes).trans hC)
          have HSTd := Lib.hid (HST5.out.below drewS)
          have HTWd := Lib.hid (HTWA.out.below drewS)
          have HKd : Hid (Blk w5.drew X 54 CX) := HK5
          have HSP := Lib.hid (spend_at HSTd.out.set x.bytes E C2 HOKX.out.bytes hE hC)
          clear hE hC
          obtain ⟨-, -, -, -, d4⟩ := HCELL.out w5 HK5.out
          go_upto_region 33 with fail
          refine wp_region_noPanic ?_
          refine wp_region_held_drew (S := (fun w' => w'.cell? ⟨X, 35, none⟩ = some (.int .i64 x.bytes))) (by kernel_rfl) ?_ (fun hHeld => ?_)
          · ((try dsimp only) <;> (first | assumption | (go_keep; done)))
          refine wpAnyH_take (i := 0) (oi := ⟨some 145, _, _, _, _, _⟩) (v := ?_) rfl (by kernel_rfl) (by kernel_rfl) (by kernel_rfl) (fun _ _ _ h => False.elim h) (Or.inl ⟨by rfl, ?_⟩) (by assumption) ?_
          rotate_left
          · intro w hSw
            (try dsimp only at hSw)
            go_simp
            all_goals with_reducible rfl
          (try simp only [Act.put, List.setIfInBounds_toArray, List.set_cons_zero, List.set_cons_succ])
          refine wpAnyH_take (i := 1) (oi := ⟨some 146, _, _, _, _, _⟩) (v := ?_) rfl (by kernel_rfl) (by kernel_rfl) (by kernel_rfl) (fun _ _ _ h => False.elim h) (Or.inl ⟨by rfl, ?_⟩) (by assumption) ?_
          rotate_left
          · intro w hSw
            (try dsimp only at hSw)
            go_simp
            all_goals with_reducible rfl
          (try simp only [Act.put, List.setIfInBounds_toArray, List.set_cons_zero, List.set_cons_succ])
          refine wpAnyH_take (i := 2) (oi := ⟨some 147, _, _, _, _, _⟩) (v := ?_) rfl (by kernel_rfl) (by kernel_rfl) (by kernel_rfl) (fun _ _ _ h => False.elim h) (Or.inl ⟨by rfl, ?_⟩) (by assumption) ?_
          rotate_left
          · intro w hSw
            (try dsimp only at hSw)
            go_simp
            all_goals with_reducible rfl
          (try simp only [Act.put, List.setIfInBounds_toArray, List.set_cons_zero, List.set_cons_succ])
          refine wpAnyH_take (i := 4) (oi := ⟨some 149, _, _, _, _, _⟩) (v := ?_) rfl (by kernel_rfl) (by kernel_rfl) (by kernel_rfl) (fun _ _ _ h => False.elim h) (Or.inl ⟨by rfl, ?_⟩) (by assumption) ?_
          rotate_left
          · intro w hSw
            (try dsimp only at hSw)
            go_simp
            all_goals with_reducible rfl
          (try simp only [Act.put, List.setIfInBounds_toArray, List.set_cons_zero, List.set_cons_succ])
          refine wpAnyH_take (i := 5) (oi := ⟨some 150, _, _, _, _, _⟩) (v := ?_) rfl (by kernel_rfl) (by kernel_rfl) (by kernel_rfl) (fun _ _ _ h => False.elim h) (Or.inl ⟨by rfl, ?_⟩) (by assumption) ?_
          rotate_left
          · intro w hSw
            (try dsimp only at hSw)
            go_simp
            all_goals with_reducible rfl
          (try simp only [Act.put, List.setIfInBounds_toArray, List.set_cons_zero, List.set_cons_succ])
          refine wpAnyH_take (i := 6) (oi := ⟨some 151, _, _, _, _, _⟩) (v := ?_) rfl (by kernel_rfl) (by kernel_rfl) (by kernel_rfl) (fun _ _ _ h => False.elim h) (Or.inl ⟨by rfl, ?_⟩) (by assumption) ?_
          rotate_left
          · intro w hSw
            (try dsimp only at hSw)
            go_simp
            all_goals with_reducible rfl
          (try simp only [Act.put, List.setIfInBounds_toArray, List.set_cons_zero, List.set_cons_succ])
          refine wpAnyH_ready (rs := [3]) (by kernel_rfl) (by simp) ?_
          refine AllReadyH.cons (o := ⟨some 148, _, _, _, _, _⟩) rfl (fun K hK => ?_) AllReadyH.nil
          go_simp
          (refine HSP.out.mono ?_; rintro e w6 ⟨rfl, hS6, hK6⟩; have HST6 := Lib.hid (HSTd.out.setP hS6 HSTd.out.gb hK6); have HTW6 := Lib.hid (HTWd.out.keep hK6 HSTd.out.set.set (by decide)); have HK6 : Hid (Blk w6 X 54 CX) := Lib.hid (HKd.out.keep hK6 (fun e => blk_ne HKd.out HSTd.out.set.set (by decide) e)); have HRS := Lib.hid (rspend_any HST6.out.rset x.bytes HOKX.out.bytes); obtain ⟨-, -, -, -, f4⟩ := HCELL.out w6 HK6.out; clear hS6 hK6)
          (try go_wp2_with fail)
          refine hK.out _ _ ?_ (fun hHeld => ?_)
          · ((try dsimp only) <;> (first | assumption | (go_keep; done)))
          clear hK K
          (try simp only [Act.put, List.setIfInBounds_toArray, List.set_cons_zero, List.set_cons_succ])
          refine wpAnyH_ready (rs := [7]) (by kernel_rfl) (by simp) ?_
          refine AllReadyH.cons (o := ⟨some 152, _, _, _, _, _⟩) rfl (fun K hK => ?_) AllReadyH.nil
          go_simp
          (refine HRS.out.mono ?_; rintro e w7 ⟨rfl, hS7, hK7⟩; rw [HRE.out]; rw [HRC.out] at hS7; have HST7 := Lib.hid (HST6.out.rsetP hS7 HST6.out.gb' hK7); have HTW7 := Lib.hid (HTW6.out.keep hK7 HST6.out.rset.set (by decide)); have HK7 : Hid (Blk w7 X 54 CX) := Lib.hid (HK6.out.keep hK7 (fun e => blk_ne HK6.out HST6.out.rset.set (by decide) e)); obtain ⟨-, -, -, -, g4⟩ := HCELL.out w7 HK7.out; clear hS7 hK7)
          (try go_wp2_with fail)
          refine hK.out _ _ ?_ (fun hHeld => ?_)
          · ((try dsimp only) <;> (first | assumption | (go_keep; done)))
          clear hK K
          (try simp only [Act.put, List.setIfInBounds_toArray, List.set_cons_zero, List.set_cons_succ])
          refine wpAnyH_take (i := 8) (oi := ⟨some 153, _, _, _, _, _⟩) (v := ?_) rfl (by kernel_rfl) (by kernel_rfl) (by kernel_rfl) (fun _ _ _ h => False.elim h) (Or.inl ⟨by rfl, ?_⟩) (by assumption) ?_
          rotate_left
          · intro w hSw
            (try dsimp only at hSw)
            go_simp
            all_goals with_reducible rfl
          (try simp only [Act.put, List.setIfInBounds_toArray, List.set_cons_zero, List.set_cons_succ])
          refine wpAnyH_done (by kernel_rfl) ?_ _
          refine NoPanic.normal ?_
          go_wp2_with fail
          go_meet
          case rel => exact ⟨rfl, g', _, C2, gr, cc, _, csr, m, L7, HST7.out, HAL.out, HTW7.out, HK7.out, HOUT.out, by omega⟩
      case rest =>
       as_aux_lemma =>
        obtain ⟨rfl, g3, L3, cr3, g4, c4, R3, cs4, m3, M7, h1, h2, h3, h4, h5, h6⟩ := hcut
        have HSTA := Lib.hid h1
        have HALA := Lib.hid h2
        have HTWB := Lib.hid h3
        have HKB := Lib.hid h4
        have HOUTB := Lib.hid h5
        have HLO := Lib.hid (list_own h1.set)
        obtain ⟨wo, hwo⟩ : ∃ wo : World, wo = wc := ⟨_, rfl⟩
        subst hwo
        clear h1 h2 h3 h4 h5 HST HST4 HST5 HAL HOLD HOUT HTWA HK4 HK5 HX HRNG HSZA HLEN HONE HAACT HZA HCX
        go_wp2_with fail
        refine HLO.out.mono ?_; rintro e w6 ⟨hls, AL, cl, n6, hn6, rfl, hol⟩
        obtain ⟨_, _, _, _, _, hB6⟩ := hls
        have HOL := Lib.hid hol
        have HN6 := Lib.hid hn6
        have HST6 := Lib.hid (HSTA.out.below hB6)
        have HTW6 := Lib.hid (HTWB.out.below hB6)
        have HK6 : Hid (Blk w6 X 54 CX) := Lib.hid (HKB.out.below hB6 HKB.out.lt)
        have hn64 : n6 ≤ 4 := by have := HSTA.out.set.len; omega
        have HWO : Hid (∀ h ∈ M7, ∀ k, h.l.ownBlock = some k → k < wo.heap.size) := Lib.hid (fun h hh k hk => by
          obtain ⟨cs, hr⟩ := HSTA.out.rows h hh
          exact (RowG.ty hr hk).2.1)
        have HGW : Hid (gt < wo.heap.size) := Lib.hid (by obtain ⟨cs, h⟩ := HTWB.out.blk; exact h.lt)
        clear hol hn6 hB6 HLO
        obtain ⟨ba, bq, hbq⟩ : ∃ a q, bestOf L3 = (a, q) := ⟨_, _, rfl⟩
        have HBE := Lib.hid (best_at HST6.out.set ba bq hbq)
        have HRBQ : Hid (rbestOf R3 = (ba, bq)) := Lib.hid ((alike_best HALA.out).trans hbq)
        clear hbq
        go_wp2_with fail
        refine HBE.out.mono ?_; rintro e w7 ⟨rfl, -, hB7⟩
        have HST7 := Lib.hid (HST6.out.below hB7)
        have HTW7 := Lib.hid (HTW6.out.below hB7)
        have HK7 : Hid (Blk w7 X 54 CX) := Lib.hid (HK6.out.below hB7 HK6.out.lt)
        have HOL7 := Lib.hid ((Keeps.of_below (M := fun _ => False) hB7).own HOL.out (fun _ _ h => h))
        have HRBE := Lib.hid (rbest_any HST7.out.rset)
        rw [HRBQ.out] at HRBE
        clear hB7 HBE
        go_wp2_with fail
        refine HRBE.out.mono ?_; rintro e w' ⟨rfl, rfl⟩
        have HST8 := Lib.hid (HST7.out.below drewS)
        have HTW8 := Lib.hid (HTW7.out.below drewS)
        have HK8 : Hid (Blk w7.drew X 54 CX) := HK7
        have HOL8 : Hid (w7.drew.ownsRow wo.heap.size 23 1 (.slice AL n6 cl) n6 ((L3.map (·.at_)).map (Value.int .u32))) := Lib.hid ((Keeps.of_below (M := fun _ => False) drewS).own HOL7.out (fun _ _ h => h))
        have HRL := Lib.hid (rlist_any HST8.out.rset)
        obtain ⟨st, hst⟩ : ∃ s, stateOf L3 x.spot = s := ⟨_, rfl⟩
        have HSTT := Lib.hid hst
        have HRST : Hid (rstateOf R3 x.spot = st) := Lib.hid ((alike_state HALA.out x.spot).trans hst)
        have HATS := Lib.hid (alike_ats HALA.out)
        obtain ⟨-, f1, f2, -, -⟩ := HCELL.out w7 HK7.out
        have e0 : (ba == ba) = true := beq_self_eq_true ba
        have e1 : (bq == bq) = true := beq_self_eq_true bq
        clear hst HRBE
        go_upto_region 38 with fail
        refine wp_region_noPanic ?_
        refine wp_region_held_drew (S := (fun w' => w'.cell? ⟨X, 2, none⟩ = some (.int .u32 x.spot) ∧ w'.cell? ⟨X, 1, none⟩ = some (.slice x.A x.n x.c))) (by kernel_rfl) ?_ (fun hHeld => ?_)
        · ((try dsimp only); refine ⟨?_, ?_⟩ <;> (first | assumption | (go_keep; done)))
        refine wpAnyH_take (i := 0) (oi := ⟨some 166, _, _, _, _, _⟩) (v := ?_) rfl (by kernel_rfl) (by kernel_rfl) (by kernel_rfl) (fun _ _ _ h => False.elim h) (Or.inl ⟨by rfl, ?_⟩) (by assumption) ?_
        rotate_left
        · intro w hSw
          (try dsimp only at hSw)
          go_simp
          all_goals with_reducible rfl
        (try simp only [Act.put, List.setIfInBounds_toArray, List.set_cons_zero, List.set_cons_succ])
        refine wpAnyH_take (i := 1) (oi := ⟨some 167, _, _, _, _, _⟩) (v := ?_) rfl (by kernel_rfl) (by kernel_rfl) (by kernel_rfl) (fun _ _ _ h => False.elim h) (Or.inl ⟨by rfl, ?_⟩) (by assumption) ?_
        rotate_left
        · intro w hSw
          (try dsimp only at hSw)
          go_simp
          all_goals with_reducible rfl
        (try simp only [Act.put, List.setIfInBounds_toArray, List.set_cons_zero, List.set_cons_succ])
        refine wpAnyH_ready (rs := [2]) (by kernel_rfl) (by simp) ?_
        refine AllReadyH.cons (o := ⟨some 168, _, _, _, _, _⟩) rfl (fun K hK => ?_) AllReadyH.nil
        go_simp
        (refine HRL.out.mono ?_; rintro e w9 ⟨A9, n9, c9, rfl, hn9, hr9, hB9⟩; have HST9 := Lib.hid (HST8.out.below hB9); have HTW9 := Lib.hid (HTW8.out.below hB9); have HK9 : Hid (Blk w9 X 54 CX) := Lib.hid (HK8.out.below hB9 HK8.out.lt); have HOL9 := Lib.hid ((Keeps.of_below (M := fun _ => False) hB9).own HOL8.out (fun _ _ h => h)); have HSM := Lib.hid (same_trueP (c := n6) (d := c9) (own_rd32 HOL9.out (fun y hy => by obtain ⟨s, hs, rfl⟩ := List.mem_map.1 hy; exact HSTA.out.set.ats s hs) (by omega)) hr9 HATS.out.symm); obtain ⟨-, i1, i2, -, -⟩ := HCELL.out w9 HK9.out; clear hn9 hr9 hB9)
        (try go_wp2_with fail)
        refine hK.out _ _ ?_ (fun hHeld => ?_)
        · ((try dsimp only); refine ⟨?_, ?_⟩ <;> (first | assumption | (go_keep; done)))
        clear hK K
        (try simp only [Act.put, List.setIfInBounds_toArray, List.set_cons_zero, List.set_cons_succ])
        refine wpAnyH_ready (rs := [3]) (by kernel_rfl) (by simp) ?_
        refine AllReadyH.cons (o := ⟨some 169, _, _, _, _, _⟩) rfl (fun K hK => ?_) AllReadyH.nil
        go_simp
        (refine HSM.out.mono ?_; rintro e wa ⟨rfl, hBa⟩; have HSTB := Lib.hid (HST9.out.below hBa); have HTWC := Lib.hid (HTW9.out.below hBa); have HKC : Hid (Blk wa X 54 CX) := Lib.hid (HK9.out.below hBa HK9.out.lt); have HOLC := Lib.hid ((Keeps.of_below (M := fun _ => False) hBa).own HOL9.out (fun _ _ h => h)); have HSC := Lib.hid (state_at HSTB.out.set x.spot st HSTT.out); obtain ⟨-, j1, j2, -, -⟩ := HCELL.out wa HKC.out; clear hBa)
        (try go_wp2_with fail)
        refine hK.out _ _ ?_ (fun hHeld => ?_)
        · ((try dsimp only); refine ⟨?_, ?_⟩ <;> (first | assumption | (go_keep; done)))
        clear hK K
        (try simp only [Act.put, List.setIfInBounds_toArray, List.set_cons_zero, List.set_cons_succ])
        refine wpAnyH_take (i := 4) (oi := ⟨some 170, _, _, _, _, _⟩) (v := ?_) rfl (by kernel_rfl) (by kernel_rfl) (by kernel_rfl) (fun _ _ _ h => False.elim h) (Or.inl ⟨by rfl, ?_⟩) (by assumption) ?_
        rotate_left
        · intro w hSw
          (try dsimp only at hSw)
          go_simp
          all_goals with_reducible rfl
        (try simp only [Act.put, List.setIfInBounds_toArray, List.set_cons_zero, List.set_cons_succ])
        refine wpAnyH_take (i := 5) (oi := ⟨some 171, _, _, _, _, _⟩) (v := ?_) rfl (by kernel_rfl) (by kernel_rfl) (by kernel_rfl) (fun _ _ _ h => False.elim h) (Or.inl ⟨by rfl, ?_⟩) (by assumption) ?_
        rotate_left
        · intro w hSw
          (try dsimp only at hSw)
          go_simp
          all_goals with_reducible rfl
        (try simp only [Act.put, List.setIfInBounds_toArray, List.set_cons_zero, List.set_cons_succ])
        refine wpAnyH_take (i := 6) (oi := ⟨some 172, _, _, _, _, _⟩) (v := ?_) rfl (by kernel_rfl) (by kernel_rfl) (by kernel_rfl) (fun _ _ _ h => False.elim h) (Or.inl ⟨by rfl, ?_⟩) (by assumption) ?_
        rotate_left
        · intro w hSw
          (try dsimp only at hSw)
          go_simp
          all_goals with_reducible rfl
        (try simp only [Act.put, List.setIfInBounds_toArray, List.set_cons_zero, List.set_cons_succ])
        refine wpAnyH_take (i := 7) (oi := ⟨some 173, _, _, _, _, _⟩) (v := ?_) rfl (by kernel_rfl) (by kernel_rfl) (by kernel_rfl) (fun _ _ _ h => False.elim h) (Or.inl ⟨by rfl, ?_⟩) (by assumption) ?_
        rotate_left
        · intro w hSw
          (try dsimp only at hSw)
          go_simp
          all_goals with_reducible rfl
        (try simp only [Act.put, List.setIfInBounds_toArray, List.set_cons_zero, List.set_cons_succ])
        refine wpAnyH_take (i := 8) (oi := ⟨some 174, _, _, _, _, _⟩) (v := ?_) rfl (by kernel_rfl) (by kernel_rfl) (by kernel_rfl) (fun _ _ _ h => False.elim h) (Or.inl ⟨by rfl, ?_⟩) (by assumption) ?_
        rotate_left
        · intro w hSw
          (try dsimp only at hSw)
          go_simp
          all_goals with_reducible rfl
        (try simp only [Act.put, List.setIfInBounds_toArray, List.set_cons_zero, List.set_cons_succ])
        refine wpAnyH_take (i := 9) (oi := ⟨some 175, _, _, _, _, _⟩) (v := ?_) rfl (by kernel_rfl) (by kernel_rfl) (by kernel_rfl) (fun _ _ _ h => False.elim h) (Or.inl ⟨by rfl, ?_⟩) (by assumption) ?_
        rotate_left
        · intro w hSw
          (try dsimp only at hSw)
          go_simp
          all_goals with_reducible rfl
        (try simp only [Act.put, List.setIfInBounds_toArray, List.set_cons_zero, List.set_cons_succ])
        refine wpAnyH_take (i := 10) (oi := ⟨some 176, _, _, _, _, _⟩) (v := ?_) rfl (by kernel_rfl) (by kernel_rfl) (by kernel_rfl) (fun _ _ _ h => False.elim h) (Or.inl ⟨by rfl, ?_⟩) (by assumption) ?_
        rotate_left
        · intro w hSw
          (try dsimp only at hSw)
          go_simp
          all_goals with_reducible rfl
        (try simp only [Act.put, List.setIfInBounds_toArray, List.set_cons_zero, List.set_cons_succ])
        refine wpAnyH_take (i := 11) (oi := ⟨some 177, _, _, _, _, _⟩) (v := ?_) rfl (by kernel_rfl) (by kernel_rfl) (by kernel_rfl) (fun _ _ _ h => False.elim h) (Or.inl ⟨by rfl, ?_⟩) (by assumption) ?_
        rotate_left
        · intro w hSw
          (try dsimp only at hSw)
          go_simp
          all_goals with_reducible rfl
        (try simp only [Act.put, List.setIfInBounds_toArray, List.set_cons_zero, List.set_cons_succ])
        refine wpAnyH_take (i := 12) (oi := ⟨some 178, _, _, _, _, _⟩) (v := ?_) rfl (by kernel_rfl) (by kernel_rfl) (by kernel_rfl) (fun _ _ _ h => False.elim h) (Or.inl ⟨by rfl, ?_⟩) (by assumption) ?_
        rotate_left
        · intro w hSw
          (try dsimp only at hSw)
          go_simp
          all_goals with_reducible rfl
        (try simp only [Act.put, List.setIfInBounds_toArray, List.set_cons_zero, List.set_cons_succ])
        refine wpAnyH_take (i := 13) (oi := ⟨some 179, _, _, _, _, _⟩) (v := ?_) rfl (by kernel_rfl) (by kernel_rfl) (by kernel_rfl) (fun _ _ _ h => False.elim h) (Or.inl ⟨by rfl, ?_⟩) (by assumption) ?_
        rotate_left
        · intro w hSw
          (try dsimp only at hSw)
          go_simp
          all_goals with_reducible rfl
        (try simp only [Act.put, List.setIfInBounds_toArray, List.set_cons_zero, List.set_cons_succ])
        refine wpAnyH_take (i := 14) (oi := ⟨some 180, _, _, _, _, _⟩) (v := ?_) rfl (by kernel_rfl) (by kernel_rfl) (by kernel_rfl) (fun _ _ _ h => False.elim h) (Or.inl ⟨by rfl, ?_⟩) (by assumption) ?_
        rotate_left
        · intro w hSw
          (try dsimp only at hSw)
          go_simp
          all_goals with_reducible rfl
        (try simp only [Act.put, List.setIfInBounds_toArray, List.set_cons_zero, List.set_cons_succ])
        refine wpAnyH_take (i := 15) (oi := ⟨some 181, _, _, _, _, _⟩) (v := ?_) rfl (by kernel_rfl) (by kernel_rfl) (by kernel_rfl) (fun _ _ _ h => False.elim h) (Or.inl ⟨by rfl, ?_⟩) (by assumption) ?_
        rotate_left
        · intro w hSw
          (try dsimp only at hSw)
          go_simp
          all_goals with_reducible rfl
        (try simp only [Act.put, List.setIfInBounds_toArray, List.set_cons_zero, List.set_cons_succ])
        refine wpAnyH_take (i := 16) (oi := ⟨some 182, _, _, _, _, _⟩) (v := ?_) rfl (by kernel_rfl) (by kernel_rfl) (by kernel_rfl) (fun _ _ _ h => False.elim h) (Or.inl ⟨by rfl, ?_⟩) (by assumption) ?_
        rotate_left
        · intro w hSw
          (try dsimp only at hSw)
          go_simp
          all_goals with_reducible rfl
        (try simp only [Act.put, List.setIfInBounds_toArray, List.set_cons_zero, List.set_cons_succ])
        refine wpAnyH_take (i := 17) (oi := ⟨some 183, _, _, _, _, _⟩) (v := ?_) rfl (by kernel_rfl) (by kernel_rfl) (by kernel_rfl) (fun _ _ _ h => False.elim h) (Or.inl ⟨by rfl, ?_⟩) (by assumption) ?_
        rotate_left
        · intro w hSw
          (try dsimp only at hSw)
          go_simp
          all_goals with_reducible rfl
        (try simp only [Act.put, List.setIfInBounds_toArray, List.set_cons_zero, List.set_cons_succ])
        refine wpAnyH_take (i := 18) (oi := ⟨some 184, _, _, _, _, _⟩) (v := ?_) rfl (by kernel_rfl) (by kernel_rfl) (by kernel_rfl) (fun _ _ _ h => False.elim h) (Or.inl ⟨by rfl, ?_⟩) (by assumption) ?_
        rotate_left
        · intro w hSw
          (try dsimp only at hSw)
          go_simp
          all_goals with_reducible rfl
        (try simp only [Act.put, List.setIfInBounds_toArray, List.set_cons_zero, List.set_cons_succ])
        refine wpAnyH_take (i := 20) (oi := ⟨some 186, _, _, _, _, _⟩) (v := ?_) rfl (by kernel_rfl) (by kernel_rfl) (by kernel_rfl) (fun _ _ _ h => False.elim h) (Or.inl ⟨by rfl, ?_⟩) (by assumption) ?_
        rotate_left
        · intro w hSw
          (try dsimp only at hSw)
          go_simp
          all_goals with_reducible rfl
        (try simp only [Act.put, List.setIfInBounds_toArray, List.set_cons_zero, List.set_cons_succ])
        refine wpAnyH_take (i := 21) (oi := ⟨some 187, _, _, _, _, _⟩) (v := ?_) rfl (by kernel_rfl) (by kernel_rfl) (by kernel_rfl) (fun _ _ _ h => False.elim h) (Or.inl ⟨by rfl, ?_⟩) (by assumption) ?_
        rotate_left
        · intro w hSw
          (try dsimp only at hSw)
          go_simp
          all_goals with_reducible rfl
        (try simp only [Act.put, List.setIfInBounds_toArray, List.set_cons_zero, List.set_cons_succ])
        refine wpAnyH_take (i := 22) (oi := ⟨some 188, _, _, _, _, _⟩) (v := ?_) rfl (by kernel_rfl) (by kernel_rfl) (by kernel_rfl) (fun _ _ _ h => False.elim h) (Or.inl ⟨by rfl, ?_⟩) (by assumption) ?_
        rotate_left
        · intro w hSw
          (try dsimp only at hSw)
          go_simp
          all_goals with_reducible rfl
        (try simp only [Act.put, List.setIfInBounds_toArray, List.set_cons_zero, List.set_cons_succ])
        refine wpAnyH_ready (rs := [19]) (by kernel_rfl) (by simp) ?_
        refine AllReadyH.cons (o := ⟨some 185, _, _, _, _, _⟩) rfl (fun K hK => ?_) AllReadyH.nil
        go_simp
        (refine HSC.out.mono ?_; rintro e wb ⟨rfl, -, hBb⟩; have HSTC := Lib.hid (HSTB.out.below hBb); have HTWD := Lib.hid (HTWC.out.below hBb); have HKD : Hid (Blk wb X 54 CX) := Lib.hid (HKC.out.below hBb HKC.out.lt); have HOLD2 := Lib.hid ((Keeps.of_below (M := fun _ => False) hBb).own HOLC.out (fun _ _ h => h)); have HRSC := Lib.hid (rstate_any HSTC.out.rset x.spot); rw [HRST.out] at HRSC; obtain ⟨-, k1, k2, -, -⟩ := HCELL.out wb HKD.out; clear hBb)
        (try go_wp2_with fail)
        refine hK.out _ _ ?_ (fun hHeld => ?_)
        · ((try dsimp only); refine ⟨?_, ?_⟩ <;> (first | assumption | (go_keep; done)))
        clear hK K
        (try simp only [Act.put, List.setIfInBounds_toArray, List.set_cons_zero, List.set_cons_succ])
        refine wpAnyH_ready (rs := [23]) (by kernel_rfl) (by simp) ?_
        refine AllReadyH.cons (o := ⟨some 189, _, _, _, _, _⟩) rfl (fun K hK => ?_) AllReadyH.nil
        go_simp
        (refine HRSC.out.mono ?_; rintro e w' ⟨rfl, rfl⟩)
        (try go_wp2_with fail)
        refine hK.out _ _ ?_ (fun hHeld => ?_)
        · ((try dsimp only); refine ⟨?_, ?_⟩ <;> (first | assumption | (go_keep; done)))
        clear hK K
        (try simp only [Act.put, List.setIfInBounds_toArray, List.set_cons_zero, List.set_cons_succ])
        refine wpAnyH_take (i := 24) (oi := ⟨some 190, _, _, _, _, _⟩) (v := ?_) rfl (by kernel_rfl) (by kernel_rfl) (by kernel_rfl) (fun _ _ _ h => False.elim h) (Or.inl ⟨by rfl, ?_⟩) (by assumption) ?_
        rotate_left
        · intro w hSw
          (try dsimp only at hSw)
          go_simp
          all_goals with_reducible rfl
        (try simp only [Act.put, List.setIfInBounds_toArray, List.set_cons_zero, List.set_cons_succ])
        refine wpAnyH_take (i := 25) (oi := ⟨some 191, _, _, _, _, _⟩) (v := ?_) rfl (by kernel_rfl) (by kernel_rfl) (by kernel_rfl) (fun _ _ _ h => False.elim h) (Or.inl ⟨by rfl, ?_⟩) (by assumption) ?_
        rotate_left
        · intro w hSw
          (try dsimp only at hSw)
          go_simp
          all_goals with_reducible rfl
        (try simp only [Act.put, List.setIfInBounds_toArray, List.set_cons_zero, List.set_cons_succ])
        refine wpAnyH_take (i := 26) (oi := ⟨some 192, _, _, _, _, _⟩) (v := ?_) rfl (by kernel_rfl) (by kernel_rfl) (by kernel_rfl) (fun _ _ _ h => False.elim h) (Or.inl ⟨by rfl, ?_⟩) (by assumption) ?_
        rotate_left
        · intro w hSw
          (try dsimp only at hSw)
          go_simp
          all_goals with_reducible rfl
        (try simp only [Act.put, List.setIfInBounds_toArray, List.set_cons_zero, List.set_cons_succ])
        refine wpAnyH_take (i := 27) (oi := ⟨some 193, _, _, _, _, _⟩) (v := ?_) rfl (by kernel_rfl) (by kernel_rfl) (by kernel_rfl) (fun _ _ _ h => False.elim h) (Or.inl ⟨by rfl, ?_⟩) (by assumption) ?_
        rotate_left
        · intro w hSw
          (try dsimp only at hSw)
          go_simp
          all_goals with_reducible rfl
        (try simp only [Act.put, List.setIfInBounds_toArray, List.set_cons_zero, List.set_cons_succ])
        refine wpAnyH_take (i := 28) (oi := ⟨some 194, _, _, _, _, _⟩) (v := ?_) rfl (by kernel_rfl) (by kernel_rfl) (by kernel_rfl) (fun _ _ _ h => False.elim h) (Or.inl ⟨by rfl, ?_⟩) (by assumption) ?_
        rotate_left
        · intro w hSw
          (try dsimp only at hSw)
          go_simp
          all_goals with_reducible rfl
        (try simp only [Act.put, List.setIfInBounds_toArray, List.set_cons_zero, List.set_cons_succ])
        refine wpAnyH_take (i := 29) (oi := ⟨some 195, _, _, _, _, _⟩) (v := ?_) rfl (by kernel_rfl) (by kernel_rfl) (by kernel_rfl) (fun _ _ _ h => False.elim h) (Or.inl ⟨by rfl, ?_⟩) (by assumption) ?_
        rotate_left
        · intro w hSw
          (try dsimp only at hSw)
          go_simp
          all_goals with_reducible rfl
        (try simp only [Act.put, List.setIfInBounds_toArray, List.set_cons_zero, List.set_cons_succ])
        refine wpAnyH_ready (rs := [30]) (by kernel_rfl) (by simp) ?_
        refine AllReadyH.cons (o := ⟨some 196, _, _, _, _, _⟩) rfl (fun K hK => ?_) AllReadyH.nil
        go_simp
        (refine (leftSp_any gt x.n ct x.xs x.A x.c wb HTWD.out.cap HTWD.out.capm (HTWD.out.rd HXB.out (by omega)) (HRX.out.below HSTC.out.bel)).mono ?_; rintro e wc ⟨rfl, hDc⟩; have hBc := below_drawn (Below.refl wb.heap.size wb) hDc; have HSTD := Lib.hid (HSTC.out.below hBc); have HTWE := Lib.hid (HTWD.out.below hBc); have HKE : Hid (Blk wc X 54 CX) := Lib.hid (HKD.out.below hBc HKD.out.lt); have HOLE := Lib.hid ((Keeps.of_below (M := fun _ => False) hBc).own HOLD2.out (fun _ _ h => h)); obtain ⟨-, l1, l2, -, -⟩ := HCELL.out wc HKE.out; clear hDc hBc)
        (try go_wp2_with fail)
        refine hK.out _ _ ?_ (fun hHeld => ?_)
        · ((try dsimp only); refine ⟨?_, ?_⟩ <;> (first | assumption | (go_keep; done)))
        clear hK K
        (try simp only [Act.put, List.setIfInBounds_toArray, List.set_cons_zero, List.set_cons_succ])
        refine wpAnyH_take (i := 31) (oi := ⟨some 197, _, _, _, _, _⟩) (v := ?_) rfl (by kernel_rfl) (by kernel_rfl) (by kernel_rfl) (fun _ _ _ h => False.elim h) (Or.inl ⟨by rfl, ?_⟩) (by assumption) ?_
        rotate_left
        · intro w hSw
          (try dsimp only at hSw)
          go_simp
          all_goals with_reducible rfl
        (try simp only [Act.put, List.setIfInBounds_toArray, List.set_cons_zero, List.set_cons_succ])
        refine wpAnyH_take (i := 32) (oi := ⟨some 198, _, _, _, _, _⟩) (v := ?_) rfl (by kernel_rfl) (by kernel_rfl) (by kernel_rfl) (fun _ _ _ h => False.elim h) (Or.inl ⟨by rfl, ?_⟩) (by assumption) ?_
        rotate_left
        · intro w hSw
          (try dsimp only at hSw)
          go_simp
          all_goals with_reducible rfl
        (try simp only [Act.put, List.setIfInBounds_toArray, List.set_cons_zero, List.set_cons_succ])
        refine wpAnyH_done (by kernel_rfl) ?_ _
        refine NoPanic.normal ?_
        have HNT := Lib.hid (note_at HSTD.out HTWE.out.row (fun h hh k hk e => by
          have h1 := HOUTB.out h hh k hk
          have h2 : gt = k := by simpa [Value.ownBlock] using e
          have h3 := HTWE.out.lo
          have h4 := HTWE.out.hi
          omega) (by omega) (by omega))
        obtain ⟨HB8, hbx, -⟩ := HSTD.out.book
        obtain ⟨SB, hbox, -⟩ := hbx.box
        have HBOX := Lib.hid hbox
        clear hbx hbox
        go_wp2_with fail
        refine HNT.out.mono ?_; rintro e wd ⟨rfl, hd, hKd⟩
        have HSTE := Lib.hid hd
        have HOLF := Lib.hid (hKd.own HOLE.out (fun k hk e => by
          have hc := own_type HOLE.out hk
          obtain ⟨_, _, cur, hc⟩ := hc
          exact byBook_ne (T := 23) (cs := cur.toList) (by unfold Blk; rw [hc]) HBOX.out.lt ⟨_, HBOX.out⟩ (by decide) e))
        have HNL := Lib.hid (note_at HSTE.out (A := AL) (n := n6) (c := n6) ⟨AL, n6, cl, rfl, Nat.le_refl _, by obtain ⟨_, _, e, h, _⟩ := own_slice HOLF.out; injection e with _ _ e; omega, own_lower HOLF.out HSTA.out.bel.size⟩ (fun h hh k hk e => by
          have h2 := (own_base HOLF.out k (by rw [cap_block AL n6 cl n6 n6]; exact e)).1
          rcases List.mem_append.1 hh with hh | hh
          · have h1 := HWO.out h hh k hk
            omega
          · rw [List.mem_singleton] at hh
            subst hh
            have h3 : gt = k := by simpa [Hb.l, Value.ownBlock] using hk
            have h4 := HGW.out
            omega) (by omega) (by omega))
        clear hd hKd
        go_wp2_with fail
        refine HNL.out.mono ?_; rintro e we ⟨rfl, hE, -⟩
        have HSTF := Lib.hid hE
        clear hE
        go_wp2_with fail
        go_roundw
        case rel => exact ⟨k + 1, g3, L3, cr3, g4, c4, R3, cs4, m3 + 1 + 1, _, by omega, by go_num, HSTF.out, HALA.out, by omega⟩
        case measure => simp [intOf]; omega
    · obtain rfl : k = n1 := by omega
      have HAP := Lib.hid (apart_at HST.out)
      go_wp2_with fail
      refine HAP.out.mono ?_; rintro e w8 ⟨rfl, hB⟩
      have HB := Lib.hid hB
      clear hB
      go_wp2_with fail
      go_ret
      exact ⟨rfl, HB.out⟩
end Go.Proofs.YtgecfcdafbedaaaGreatDoor
