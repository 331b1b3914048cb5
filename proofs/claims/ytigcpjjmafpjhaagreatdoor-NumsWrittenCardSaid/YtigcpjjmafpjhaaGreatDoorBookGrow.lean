/- More is put behind all of a Book's lists of bytes, one by one. -/
import Derived.Test.YtigcpjjmafpjhaaGreatDoorBookFill
namespace Go.Proofs.YtigcpjjmafpjhaaGreatDoor
open Go.RowKit
set_option linter.unusedSimpArgs false
set_option linter.unusedVariables false

/-- A list's own bytes are marks. -/
def Low (w : World) (h : Hb) : Prop := ∀ g, h.A = some ⟨g, 0, none⟩ → ∀ j, j < h.len → w.cell? ⟨g, j, none⟩ = some (.int .u8 (h.n : Int))
/-- The list with more behind it. -/
def Hb.grown (h : Hb) (A : Option Addr) (c : Nat) : Hb := ⟨h.A, h.len, h.cap, A, h.len + 40, c, h.n⟩
structure Grown (base : Nat) (w0 w : World) (h h' : Hb) : Prop where
  is : ∃ A c, h' = h.grown A c
  row : RowW base w h'.long (h.len + 40) (marks h (h.len + 40))
  low : Low w h
  blk : ∀ k, h'.long.ownBlock = some k → h.l.ownBlock = some k ∨ w0.heap.size ≤ k
theorem own_of_A {h : Hb} {g : Nat} (hA : h.A = some ⟨g, 0, none⟩) : h.l.ownBlock = some g := by
  show (Value.slice h.A h.len h.cap).ownBlock = _
  rw [hA]; rfl
theorem Low.keep {w w' : World} {h : Hb} {M : Nat → Prop} (hl : Low w h) (hk : Keeps M w w') (hM : ∀ g, h.l.ownBlock = some g → g < w.heap.size ∧ ¬ M g) : Low w' h := fun g hA j hj => by
  obtain ⟨h1, h2⟩ := hM g (own_of_A hA)
  exact (hk.cell (p := ⟨g, j, none⟩) h1 h2).trans (hl g hA j hj)
theorem RowIs.low {base : Nat} {w : World} {h : Hb} (hr : RowIs base w h (marks h h.len)) : Low w h := fun g hA j hj => by
  obtain ⟨g', hA', _, _, _, _, hc, _⟩ := hr.at_ (by omega)
  rw [hA] at hA'
  injection hA' with hA'
  injection hA' with hA'
  subst hA'
  have := hc j hj
  rwa [show (marks h h.len)[j]?.getD 0 = (h.n : Int) by simp [marks, hj]] at this
theorem marks_snoc (h : Hb) (k : Nat) : marks h (k + 1) = marks h k ++ [(h.n : Int)] := by simp [marks, List.replicate_succ']
theorem flatH_set {hs : List Hb} {j : Nat} {h h' : Hb} {v : Value} (hj : hs[j]? = some h) (hv : hbC h' = (hbC h).set 1 v) : (flatH hs).set (j * 3 + 1) v = flatH (hs.set j h') := by
  have hi : j < hs.length := (List.getElem?_eq_some_iff.1 hj).1
  have he : hs[j] = h := (List.getElem?_eq_some_iff.1 hj).2
  have hsplit : hs = hs.take j ++ h :: hs.drop (j + 1) := by rw [← he, ← List.drop_eq_getElem_cons hi, List.take_append_drop]
  have hA : (flatH (hs.take j)).length = j * 3 := by rw [flatH_len, List.length_take, Nat.min_eq_left (by omega)]
  have e1 : flatH hs = flatH (hs.take j) ++ (hbC h ++ flatH (hs.drop (j + 1))) := by
    have := congrArg flatH hsplit
    rw [this]; simp [flatH]
  have e2 : flatH (hs.set j h') = flatH (hs.take j) ++ (hbC h' ++ flatH (hs.drop (j + 1))) := by
    rw [List.set_eq_take_append_cons_drop, if_pos hi]; simp [flatH]
  rw [e1, e2, List.set_append, if_neg (by omega), List.set_append, if_pos (by simp [hbC]; omega), show j * 3 + 1 - (flatH (hs.take j)).length = 1 by omega, hv]
theorem own_type_ne {w : World} {base : Nat} {e t : TypeId} {size n g : Nat} {v : Value} {xs : List Value} {cur : Array Value} {fr : Nat × Nat} (h : w.ownsRow base e size v n xs) (hg : w.heap[g]? = some (.cells cur t fr)) (hne : e ≠ t) : v.ownBlock ≠ some g := by
  rcases h.2 with ⟨rfl, _⟩ | ⟨g', cap, cur', rfl, _, hh, _⟩
  · simp [Value.ownBlock]
  · intro he
    have : g' = g := by simpa [Value.ownBlock] using he
    subst this
    rw [hh] at hg
    injection hg with hg
    injection hg with _ ht _
    exact hne ht
theorem Grown.keep {base : Nat} {w0 w w' : World} {h h' : Hb} {M : Nat → Prop} (g : Grown base w0 w h h') (hk : Keeps M w w') (hl : ∀ k, h.l.ownBlock = some k → k < w.heap.size ∧ ¬ M k) (hv : ∀ k, h'.long.ownBlock = some k → ¬ M k) : Grown base w0 w' h h' :=
  ⟨g.is, g.row.keep hk hv, g.low.keep hk hl, g.blk⟩
/-- What more there is, is noted in the Book. -/
theorem BookAt.note {base B : Nat} {w : World} {hs : List Hb} {h : Hb} {j g c : Nat} (hb : BookAt base w B hs) (hj : hs[j]? = some h) (hS : Blk w B 52 (bookC hs.length (.slice (some ⟨g, 0, none⟩) hs.length c))) (A : Option Addr) (cc : Nat) :
    BookAt base (w.setCell ⟨g, j * 3 + 1, none⟩ (.slice A (h.len + 40) cc)) B (hs.set j (h.grown A cc)) := by
  obtain ⟨S, h1, h2⟩ := hb.box
  have e : S = .slice (some ⟨g, 0, none⟩) hs.length c := by
    have e1 := h1.cell 1
    have e2 := hS.cell 1
    rw [e1] at e2
    simpa [bookC] using e2
  subst e
  have hst := (h2.stored (j * 3 + 1) (.slice A (h.len + 40) cc)).1
  rw [flatH_set (h' := h.grown A cc) (v := .slice A (h.len + 40) cc) hj rfl] at hst
  refine ⟨⟨_, ?_, by rw [List.length_set]; exact hst⟩, hb.lo, by rw [List.length_set]; exact hb.few⟩
  rw [List.length_set]
  refine h1.keep (Keeps.set1 w ⟨g, j * 3 + 1, none⟩ _) (fun e => ?_)
  exact own_blk_ne h2 h1 (by decide) (by rw [e]; rfl)

set_option maxRecDepth 100000 in
set_option maxHeartbeats 8000000 in
theorem growb_any (base B : Nat) (hs : List Hb) (w : World) (hb : BookAt base w B hs) (hrow : ∀ (i : Nat) (h : Hb), hs[i]? = some h → RowIs base w h (marks h h.len)) (hf : Fine base w hs) (hbase : base ≤ w.heap.size) :
    Calls Tryz.prog 41 #[.pointer (some ⟨B, 0, none⟩)] w fun e w' => e = .returned (.tuple #[]) ∧ (∃ hs', BookAt base w' B hs' ∧ hs'.length = hs.length ∧ ∀ (i : Nat) (h : Hb), hs[i]? = some h → ∃ h', hs'[i]? = some h' ∧ Grown base w w' h h') ∧ Keeps (fun i => base ≤ i) w w' := by
  have hu : Tryz.prog.underlying 70 = some (.struct _) := Tryz.underlying70
  obtain ⟨S0, hS0, hO0⟩ := hb.box
  have hlow : ∀ (i : Nat) (h : Hb), hs[i]? = some h → ∀ k, h.l.ownBlock = some k → k < w.heap.size ∧ S0.ownBlock ≠ some k := fun i h hi k hk => ⟨((hrow i h hi).u8 hk).2.1, by
    obtain ⟨_, _, cur, h2⟩ := (hrow i h hi).u8 hk
    exact own_type_ne hO0 h2 (by decide)⟩
  have HS0 := Lib.hid hS0
  have HB_ := Lib.hid hb
  have HROW := Lib.hid hrow
  have HLOW := Lib.hid hlow
  have HF := Lib.hid hf
  have HU := Lib.hid hu
  have HBA := Lib.hid hbase
  obtain ⟨N, hN⟩ : ∃ N, hs.length = N := ⟨_, rfl⟩
  have HN := Lib.hid hN
  rw [hN] at HS0
  have hfew : N ≤ 100 := by rw [← hN]; exact hb.few
  clear hb hrow hf hu hbase hN hlow hS0 hO0
  go_enter Tryz.func41, Tryz.ntmps41
  go_wp2_with fail
  go_loopw [2] (fun s wr => ∃ j : Nat, j ≤ N ∧ s = .int .i64 j ∧ ∃ hs', BookAt base wr B hs' ∧ Blk wr B 52 (bookC N S0) ∧ hs'.length = N ∧ (∀ i, j ≤ i → hs'[i]? = hs[i]?) ∧ (∀ (i : Nat) (h : Hb), i < j → hs[i]? = some h → ∃ h', hs'[i]? = some h' ∧ Grown base w wr h h') ∧ (∀ (i : Nat) (h : Hb), j ≤ i → hs[i]? = some h → RowIs base wr h (marks h h.len)) ∧ Keeps (fun i => base ≤ i) w wr) (fun s _ => N - (intOf s).toNat)
  case atStart => exact ⟨0, Nat.zero_le _, rfl, hs, HB_.out, HS0.out, HN.out, fun i _ => rfl, fun i h hi => absurd hi (by omega), fun i h _ hi => HROW.out i h hi, Keeps.refl _ _⟩
  case round =>
    obtain ⟨j, hj, rfl, hs', hbk, hsB, hsl, hsame, hdone, htodo, hkp⟩ := hrel
    by_cases hlt : j < N
    · obtain ⟨h, hh⟩ : ∃ h, hs[j]? = some h := ⟨_, List.getElem?_eq_getElem (by rw [HN.out]; exact hlt)⟩
      have hh' : hs'[j]? = some h := by rw [hsame j (Nat.le_refl _)]; exact hh
      obtain ⟨gS, cS, hB, hcS, hgS, hbS, hcurS, hrowS⟩ := hbk.at_ hh'
      have hSown : S0.ownBlock = some gS := by
        have e1 := hB.cell 1
        have e2 := hsB.cell 1
        rw [e1] at e2
        simp only [bookC, List.getElem?_cons_succ, List.getElem?_cons_zero, Option.some.injEq] at e2
        rw [← e2]; rfl
      have HSOWN := Lib.hid hSown
      have hxs := htodo j h (Nat.le_refl _) hh
      have hn := HF.out.n j h hh
      have hlen := HF.out.len j h hh
      have hB1 := hB.cell 1
      simp only [bookC, List.getElem?_cons_succ, List.getElem?_cons_zero] at hB1
      rw [hsl] at hB1
      have hs3 : (Tryz.prog.info? 70).map (·.size) = some (hbC h).length := size_hb
      have hs4 : (Tryz.prog.info? 70).map (·.size) = some (hbC h).toArray.size := size_hb
      have h1 : (hbC h).toArray.all (·.oneCell') = true := all_oneCell_toArray (hbC_one h)
      have HK4 : Hid (Blk (wr.alloc (.cells zHb.toArray 70)) wr.heap.size 70 zHb) := Lib.hid (Blk.new wr 70 zHb)
      have HTH : Hid ((wr.alloc (.cells zHb.toArray 70)).there wr.heap.size 0 (hbC h).toArray.size) := Lib.hid (HK4.out.there 0 _ (by simp [zHb, hbC]))
      have hk5 : Blk ((wr.alloc (.cells zHb.toArray 70)).setCells wr.heap.size 0 (hbC h)) wr.heap.size 70 (hbC h) := by
        have := Blk.setCells (hbC h) 0 _ _ HK4.out (by simp [zHb, hbC])
        rwa [splice_whole _ _ (by simp [zHb, hbC])] at this
      have hB5 : Below wr.heap.size wr ((wr.alloc (.cells zHb.toArray 70)).setCells wr.heap.size 0 (hbC h)) := below_keeps (new_belowB _ _) (Keeps.setCells (g := wr.heap.size) _ 0 _) (Nat.le_refl _) (fun i hi => by have e : i = wr.heap.size := hi; omega)
      obtain ⟨w5, hw5⟩ : ∃ w5, (wr.alloc (.cells zHb.toArray 70)).setCells wr.heap.size 0 (hbC h) = w5 := ⟨_, rfl⟩
      rw [hw5] at hk5 hB5
      have HW5 := Lib.hid hw5
      have HBK5 := Lib.hid (hbk.below hB5)
      have HS5 := Lib.hid (hB.below hB5 hB.lt)
      have HX5 := Lib.hid (hxs.below hB5)
      have HK5 := Lib.hid hk5
      have HWZ : Hid (w.heap.size ≤ w5.heap.size) := Lib.hid (Nat.le_trans hkp.size hB5.size)
      have HROWS := Lib.hid (hrowS _ rfl)
      have HS3 := Lib.hid hs3
      have HS4 := Lib.hid hs4
      have H1 := Lib.hid h1
      have HH := Lib.hid hh
      have HH' := Lib.hid hh'
      have HSL := Lib.hid hsl
      have HSAME := Lib.hid hsame
      have HDONE : Hid (∀ (i : Nat) (h2 : Hb), i < j → hs[i]? = some h2 → ∃ h', hs'[i]? = some h' ∧ Grown base w w5 h2 h') := Lib.hid (fun i h2 hi hi2 => by
        obtain ⟨h3, e3, g3⟩ := hdone i h2 hi hi2
        refine ⟨h3, e3, g3.is, g3.row.keep (Keeps.of_below (M := fun _ => False) hB5) (fun _ _ hf => hf), g3.low.keep (Keeps.of_below (M := fun _ => False) hB5) (fun g hg => ⟨?_, fun hf => hf⟩), g3.blk⟩
        have := (HLOW.out i h2 hi2 g hg).1
        have := hkp.size
        omega)
      have HTODO := Lib.hid (fun (i : Nat) (h2 : Hb) (hi : j ≤ i) (hi2 : hs[i]? = some h2) => (htodo i h2 hi hi2).below hB5)
      have HKP := Lib.hid (hkp.below hB5)
      have HCUR : Hid (∃ cur, w5.heap[gS]? = some (.cells cur 70 (0, 0))) := Lib.hid (by
        obtain ⟨cur, hc⟩ := hcurS
        exact ⟨cur, (hB5.block gS hgS).trans hc⟩)
      have HSB5 := Lib.hid (hsB.below hB5 hsB.lt)
      have HBS := Lib.hid hbS
      have HGS : Hid (gS < w5.heap.size) := Lib.hid (Nat.lt_of_lt_of_le hgS hB5.size)
      have HG : Hid (∀ k, h.l.ownBlock = some k → k ≠ wr.heap.size) := Lib.hid (fun k hk => by have := (hxs.u8 hk).2.1; omega)
      have HGZ : Hid (wr.heap.size < w5.heap.size) := Lib.hid hk5.lt
      have c0 : w5.cell? ⟨wr.heap.size, 0, none⟩ = some (.slice h.A h.len h.cap) := HK5.out.cell 0
      have c2 : w5.cell? ⟨wr.heap.size, 2, none⟩ = some (.int .i64 (h.n : Int)) := HK5.out.cell 2
      obtain ⟨Y, hY⟩ : ∃ Y, hbC h = Y := ⟨_, rfl⟩
      obtain ⟨Z, hZ⟩ : ∃ Z, zHb = Z := ⟨_, rfl⟩
      have HZ := Lib.hid hZ
      rw [hY] at HROWS HS3 HS4 H1 HTH HW5
      rw [hZ] at HTH HW5
      have j0 : (0 : Int) ≤ (j : Int) := by omega
      have j1 : (j : Int) < (N : Int) := by omega
      have jadd : IntKind.i64.wrap ((j : Int) + 1) = (j : Int) + 1 := IntWalk.i64_in _ (by omega)
      clear hk5 hB5 hw5 hY hZ hbk hrowS hcurS hxs hs3 hs4 h1 hh hh' hsl hsame hdone htodo hkp hB hsB hSown HK4
      go_wp2_with (first
        | (refine wpList_load_mid rfl 70 _ rfl gS (j * 3) rfl Y _ HROWS.out HU.out rfl HS3.out ?_)
        | (refine wpList_value (o := ⟨some 3, .alloc 70, _, _, _, _⟩) (v := .pointer (some ⟨wr.heap.size, 0, none⟩)) (w' := wr.alloc (.cells zHb.toArray 70)) rfl (by kernel_rfl) ?_; rw [HZ.out])
        | (refine wpList_store_mid rfl 70 _ _ rfl wr.heap.size 0 Y.toArray rfl rfl HTH.out HS4.out H1.out ?_; rw [show Y.toArray.toList = Y from rfl, HW5.out]))
      clear HW5 HTH HROWS hgS hB1
      generalize wr.heap.size = G at *
      clear wr
      go_loopw [4, 5] (fun v s wr => ∃ k : Nat, k ≤ 40 ∧ s = .int .i64 k ∧ RowW base wr v (h.len + k) (marks h (h.len + k)) ∧ Low wr h ∧ Keeps (fun x => h.l.ownBlock = some x ∨ w5.heap.size ≤ x) w5 wr ∧ ∀ x, v.ownBlock = some x → h.l.ownBlock = some x ∨ w5.heap.size ≤ x) (fun _ s _ => 40 - (intOf s).toNat)
      case atStart => exact ⟨0, Nat.zero_le _, rfl, HX5.out, HX5.out.low, Keeps.refl _ _, fun x hx => .inl hx⟩
      case round =>
        obtain ⟨k, hk, rfl, hrk, hlo, hkk, hvb⟩ := hrel
        obtain ⟨AA, cc, rfl, -⟩ := hrk.slice
        have hGM : ¬ (h.l.ownBlock = some G ∨ w5.heap.size ≤ G) := by
          rintro (h1 | h1)
          · exact HG.out _ h1 rfl
          · have := HGZ.out; omega
        have hkq := HK5.out.keep hkk hGM
        have q2 : wr.cell? ⟨G, 2, none⟩ = some (.int .i64 (h.n : Int)) := hkq.cell 2
        by_cases hkl : k < 40
        · have HRK := Lib.hid hrk
          have HLO := Lib.hid hlo
          have HKK := Lib.hid hkk
          have HVB := Lib.hid hvb
          have HSZ : Hid (base ≤ wr.heap.size) := Lib.hid (by have := hkk.size; have := HWZ.out; have := HBA.out; omega)
          have kadd : IntKind.i64.wrap ((k : Int) + 1) = (k : Int) + 1 := IntWalk.i64_in _ (by omega)
          clear hrk hlo hkk hvb hkq hGM
          go_wp2_with fail
          refine (mark_any h.n wr hn.2).mono ?_; rintro e wm ⟨rfl, rfl⟩
          go_wp2_with (at_builtin; refine append_byte (W := wr) base rfl _ _ rfl AA (h.len + k) cc (marks h (h.len + k)) (h.n : Int) rfl rfl HRK.out HSZ.out (by omega) ?_; intro v1 w1 ho1 hc1)
          go_roundw
          case rel =>
            refine ⟨k + 1, by omega, by go_num, by rw [← Nat.add_assoc, marks_snoc]; exact ho1, ?_⟩
            rcases hc1 with ⟨e1, e2, k1⟩ | ⟨b, e1, hb1, k1⟩
            · refine ⟨fun g hA i hi => ?_, HKK.out.trans (k1.mono (fun x hx => HVB.out x hx)), fun x hx => HVB.out x (by rw [← e1]; exact hx)⟩
              have hg5 : g < w5.heap.size := (HX5.out.u8 (own_of_A hA)).2.1
              obtain ⟨x, hx⟩ : ∃ x, (Value.slice AA (h.len + k) cc).ownBlock = some x := Option.ne_none_iff_exists'.1 e2
              by_cases hxg : x = g
              · subst hxg
                obtain ⟨_, A1, c1, e3, _, _, hcc1⟩ := ho1.ints
                obtain ⟨g1, hA1, _, _, hcell⟩ := hcc1 (by omega)
                have hgx : g1 = x := by
                  have h9 : v1.ownBlock = some g1 := by rw [e3, hA1]; rfl
                  rw [e1, hx] at h9
                  injection h9 with h9
                  exact h9.symm
                subst hgx
                have := hcell i (by omega)
                rwa [← marks_snoc, show (marks h (h.len + k + 1))[i]?.getD 0 = (h.n : Int) by simp [marks, show i < h.len + k + 1 by omega]] at this
              · refine (k1.cell (p := ⟨g, i, none⟩) ?_ ?_).trans (HLO.out g hA i hi)
                · have := HKK.out.size; show g < _; omega
                · intro hm
                  have : some x = some g := hx.symm.trans hm
                  injection this with this
                  exact hxg this
            · refine ⟨HLO.out.keep (Keeps.of_below (M := fun _ => False) k1) (fun g hg => ⟨?_, fun hf => hf⟩), HKK.out.below k1, fun x hx => .inr ?_⟩
              · have := (HX5.out.u8 hg).2.1; have := HKK.out.size; omega
              · rw [e1] at hx
                injection hx with hx
                have := HKK.out.size; omega
          case measure => simp [intOf]; omega
        · obtain rfl : k = 40 := by omega
          have hB6 : Blk wr B 52 (bookC hs'.length (.slice (some ⟨gS, 0, none⟩) hs'.length cS)) := HS5.out.keep hkk (by
            rintro (h1 | h1)
            · obtain ⟨_, _, cur, h2⟩ := HX5.out.u8 h1
              have h3 := HS5.out
              unfold Blk at h3
              rw [h3] at h2
              injection h2 with h2
              injection h2 with _ h2 _
              exact absurd h2 (by decide)
            · have := HS5.out.lt; omega)
          have hbk6 := HBK5.out.keepRow HX5.out hkk (fun x hx => hx)
          have hB1 := hB6.cell 1
          simp only [bookC, List.getElem?_cons_succ, List.getElem?_cons_zero] at hB1
          rw [HSL.out] at hB1
          have hgm : ¬ (h.l.ownBlock = some gS ∨ w5.heap.size ≤ gS) := by
            rintro (h1 | h1)
            · obtain ⟨_, _, cur, h2⟩ := HX5.out.u8 h1
              obtain ⟨cur2, h3⟩ := HCUR.out
              rw [h3] at h2
              injection h2 with h2
              injection h2 with _ h2 _
              exact absurd h2 (by decide)
            · have := HGS.out; omega
          have hBM : ¬ (h.l.ownBlock = some B ∨ w5.heap.size ≤ B) := by
            rintro (h1 | h1)
            · obtain ⟨_, _, cur, h2⟩ := HX5.out.u8 h1
              have h3 := HSB5.out
              unfold Blk at h3
              rw [h3] at h2
              injection h2 with h2
              injection h2 with _ h2 _
              exact absurd h2 (by decide)
            · have := HSB5.out.lt; omega
          have hsB6 := HSB5.out.keep hkk hBM
          obtain ⟨cur5, hcur5⟩ := HCUR.out
          have hcur7 : wr.heap[gS]? = some (.cells cur5 70 (0, 0)) := (hkk.block gS HGS.out hgm).trans hcur5
          obtain ⟨g7, c7, hB7, _, _, _, _, hrow7⟩ := hbk6.at_ HH'.out
          have eg : g7 = gS := by
            have e1 := hB7.cell 1
            have e2 := hB6.cell 1
            rw [e1] at e2
            simp [bookC] at e2
            exact e2.1
          subst eg
          have hc7 : wr.cell? ⟨g7, j * 3 + 1, none⟩ = some (.slice h.A2 h.len2 h.cap2) := hrow7 _ rfl 1 _ rfl
          have hf7 := frozen_of_row wr g7 (j * 3 + 1) cur5 70 hcur7
          have hset : Keeps (· = g7) wr (wr.setCell ⟨g7, j * 3 + 1, none⟩ (.slice AA (h.len + 40) cc)) := Keeps.set1 wr ⟨g7, j * 3 + 1, none⟩ _
          have hvs : ∀ {v2 : Value} {n2 : Nat} {xs2 : List Int}, RowW base wr v2 n2 xs2 → ∀ k, v2.ownBlock = some k → ¬ k = g7 := fun ho k hk e => ho.type_ne hcur7 (by decide) (by rw [← e]; exact hk)
          have hown7 : ∀ (i : Nat) (h2 : Hb), hs[i]? = some h2 → ∀ k, h2.l.ownBlock = some k → k < wr.heap.size ∧ ¬ k = g7 := fun i h2 hi2 k hk => by
            obtain ⟨h5, h6⟩ := HLOW.out i h2 hi2 k hk
            refine ⟨by have := HWZ.out; have := hkk.size; omega, fun e => h6 (by rw [HSOWN.out, e])⟩
          have hother : ∀ (i : Nat) (h2 : Hb), i ≠ j → hs[i]? = some h2 → ∀ k, h2.l.ownBlock = some k → k < w5.heap.size ∧ ¬ (h.l.ownBlock = some k ∨ w5.heap.size ≤ k) := fun i h2 hij hi2 k hk => by
            have h5 := (HLOW.out i h2 hi2 k hk).1
            have h6 := HWZ.out
            refine ⟨by omega, ?_⟩
            rintro (h7 | h7)
            · exact HF.out.unlike j i h h2 HH.out hi2 (by omega) k h7 hk
            · omega
          have hjl : j < hs'.length := by rw [HSL.out]; exact hlt
          have hdone8 : ∀ (i : Nat) (h2 : Hb), i < j + 1 → hs[i]? = some h2 → ∃ h', (hs'.set j (h.grown AA cc))[i]? = some h' ∧ Grown base w (wr.setCell ⟨g7, j * 3 + 1, none⟩ (.slice AA (h.len + 40) cc)) h2 h' := fun i h2 hi hi2 => by
            by_cases hij : i = j
            · subst hij
              rw [HH.out] at hi2
              injection hi2 with hi2
              subst hi2
              refine ⟨h.grown AA cc, by rw [List.getElem?_set_self hjl], ⟨AA, cc, rfl⟩, hrk.keep hset (hvs hrk), hlo.keep hset (fun g hg => hown7 i h HH.out g hg), fun x hx => ?_⟩
              rcases hvb x hx with h1 | h1
              · exact .inl h1
              · exact .inr (Nat.le_trans HWZ.out h1)
            · obtain ⟨h3, e3, g3⟩ := HDONE.out i h2 (by omega) hi2
              have g4 : Grown base w wr h2 h3 := g3.keep hkk (hother i h2 hij hi2) (fun k hk => by
                rintro (h7 | h7)
                · rcases g3.blk k hk with h8 | h8
                  · exact (hother i h2 hij hi2 k h8).2 (.inl h7)
                  · have := (HLOW.out j h HH.out k h7).1; omega
                · have := (g3.row.based k hk).2; omega)
              exact ⟨h3, by rw [List.getElem?_set_ne (by omega)]; exact e3, g4.keep hset (hown7 i h2 hi2) (fun k hk => hvs g4.row k hk)⟩
          have htodo8 : ∀ (i : Nat) (h2 : Hb), j + 1 ≤ i → hs[i]? = some h2 → RowIs base (wr.setCell ⟨g7, j * 3 + 1, none⟩ (.slice AA (h.len + 40) cc)) h2 (marks h2 h2.len) := fun i h2 hi hi2 => by
            have h5 := (HTODO.out i h2 (by omega) hi2).keep hkk (fun k hk => (hother i h2 (by omega) hi2 k hk).2)
            exact h5.keep hset (fun k hk => (hown7 i h2 hi2 k hk).2)
          have hkp8 : Keeps (fun i => base ≤ i) w (wr.setCell ⟨g7, j * 3 + 1, none⟩ (.slice AA (h.len + 40) cc)) := (HKP.out.trans (hkk.mono (fun x hx => by
            rcases hx with hx | hx
            · exact (HX5.out.u8 hx).1
            · have := HWZ.out; have := HBA.out; omega))).setCell (.inl HBS.out) _
          have hb8 := hbk6.note HH'.out hB6 AA cc
          have hsB8 : Blk (wr.setCell ⟨g7, j * 3 + 1, none⟩ (.slice AA (h.len + 40) cc)) B 52 (bookC N S0) := hsB6.keep hset (fun e => by
            have h3 := hsB6
            unfold Blk at h3
            rw [e, hcur7] at h3
            injection h3 with h3
            injection h3 with _ h3 _
            exact absurd h3 (by decide))
          have HB8 := Lib.hid hb8
          have HSB8 := Lib.hid hsB8
          have HD8 := Lib.hid hdone8
          have HT8 := Lib.hid htodo8
          have HK8 := Lib.hid hkp8
          clear hrk hlo hkk hvb hkq hGM hB6 hbk6 hgm hBM hsB6 hcur5 hcur7 hB7 hrow7 hset hvs hown7 hother hjl hdone8 htodo8 hkp8 hb8 hsB8
          go_wp2_with fail
          go_roundw
          case rel =>
            refine ⟨j + 1, by omega, by go_num, hs'.set j (h.grown AA cc), HB8.out, HSB8.out, by rw [List.length_set]; exact HSL.out, fun i hi => ?_, HD8.out, HT8.out, HK8.out⟩
            rw [List.getElem?_set_ne (by omega)]
            exact HSAME.out i (by omega)
          case measure => simp [intOf]; omega
    · obtain rfl : j = N := by omega
      obtain ⟨S, hSb, hSo⟩ := hbk.box
      obtain ⟨AS, cS, rfl, -⟩ := own_slice hSo
      have hB1 := hSb.cell 1
      simp only [bookC, List.getElem?_cons_succ, List.getElem?_cons_zero] at hB1
      rw [hsl] at hB1
      have HBK := Lib.hid hbk
      have HSL := Lib.hid hsl
      have HD := Lib.hid (fun (i : Nat) (h : Hb) (hi : hs[i]? = some h) => hdone i h (by have := (List.getElem?_eq_some_iff.1 hi).1; have := HN.out; omega) hi)
      have HKP := Lib.hid hkp
      clear hbk hdone htodo hkp hSb hSo hsB hsame
      go_wp2_with fail
      go_end0
      exact ⟨rfl, ⟨hs', HBK.out, by rw [HSL.out, HN.out], HD.out⟩, HKP.out⟩
end Go.Proofs.YtigcpjjmafpjhaaGreatDoor
