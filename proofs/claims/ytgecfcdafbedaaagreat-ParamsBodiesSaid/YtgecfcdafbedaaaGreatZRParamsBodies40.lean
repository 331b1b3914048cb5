/- The walk over the document's GetSpots, of any bytes; The walks over SameBytes. -/
import Derived.Test.YtgecfcdafbedaaaGreatZRParamsBodies24
import Derived.Test.YtgecfcdafbedaaaGreatZRParamsBodies39
import Derived.Test.YtgecfcdafbedaaaGreatZRParamsBodies34
import Derived.Test.YtgecfcdafbedaaaGreatZRParamsBodies16
import Derived.Laws.IdiomStrings
import Derived.Test.YtgecfcdafbedaaaGreatZRParamsBodies1
import Derived.Test.YtgecfcdafbedaaaGreatZRParamsBodies0
namespace Go.Proofs.YtgecfcdafbedaaaGreat
open Go.RowKit Go.Shelf
set_option linter.unusedSimpArgs false
set_option linter.unusedVariables false

/-- The bytes of a text. -/
def u8L (bs : List Int) : List UInt8 := bs.map fun x => UInt8.ofNat x.toNat
theorem u8L_back : ∀ {bs : List Int}, (∀ x ∈ bs, 0 ≤ x ∧ x ≤ 255) → (u8L bs).map (fun b => (b.toNat : Int)) = bs
  | [], _ => rfl
  | x :: bs, h => by
    have ih := u8L_back (bs := bs) (fun y hy => h y (by simp [hy]))
    obtain ⟨h0, h1⟩ := h x (by simp)
    have e : ((UInt8.ofNat x.toNat).toNat : Int) = x := by
      rw [UInt8.toNat_ofNat']
      omega
    simp only [u8L, List.map_cons] at ih ⊢
    rw [ih, e]
theorem conv_rdA (w : World) (A : Option Addr) (n c : Nat) (xs : List Int) (l : List UInt8) (h : Rd w .u8 A n xs) (h0 : 0 < n) (hl : l.length = n) (hx : l.map (fun b => (b.toNat : Int)) = xs) :
    (convert 22 9 (.slice A n c)).run Tryz.prog w = .ok (.string ⟨l.toArray⟩) w := by
  obtain ⟨b, off, rfl, _, hc⟩ := h.row h0
  subst hl
  refine run_convert_bytes_back w 22 9 5 ⟨b, off, none⟩ c l Tryz.underlying22 Tryz.underlying5 Tryz.underlying9 (fun j hj => ?_)
  have ha : (⟨b, off, none⟩ : Addr).add j = ⟨b, off + j, none⟩ := by unfold Addr.add; split <;> simp_all
  rw [ha, hc j hj, ← hx]
  simp [hj]
theorem conv_rd {w : World} {A : Option Addr} {n c : Nat} {bs : List Int} (r : Rd w .u8 A n bs) (h0 : 0 < n) : (convert 22 9 (.slice A n c)).run Tryz.prog w = .ok (.string ⟨(u8L bs).toArray⟩) w :=
  conv_rdA w A n c bs (u8L bs) r h0 (by rw [u8L, List.length_map, r.len]) (u8L_back (fun x hx => wf_bounds_u8 (r.wf x hx)))
theorem own_rdS {w : World} {base n c : Nat} {A : Option Addr} {xs : List Int} (h : w.ownsRow base 73 1 (.slice A n c) n (xs.map (Value.int .u32))) (hb : ∀ x ∈ xs, 0 ≤ x ∧ x ≤ 4294967295) (hl : n ≤ 140737488351232) : Rd w .u32 A n xs := by
  have hn : xs.length = n := by have := h.1; simpa using this
  refine ⟨hn, hl, fun x hx => wf_of_u32 (hb x hx), fun h0 => ?_⟩
  obtain ⟨_, A', c', he, _, _, hrow⟩ := own_ints h
  injection he with he
  subst he
  obtain ⟨g, rfl, hgb, hgl, hcells⟩ := hrow h0
  exact ⟨g, 0, rfl, hgl, fun j hj => by rw [Nat.zero_add]; exact hcells j hj⟩
theorem spPre_got {bs : List Int} (hb : ∀ x ∈ bs, 0 ≤ x ∧ x ≤ 255) {m : Nat} (hl : bs.length = 1 + 4 * m) (h0 : bs[0]?.getD 0 = (m : Int)) : ∀ k, k ≤ m → spPre m (atL (spList bs m)) k = bs.take (1 + 4 * k)
  | 0, _ => by
    rw [spPre]
    have h1 : bs[0]? = some bs[0] := List.getElem?_eq_getElem (by omega)
    rw [h1, Option.getD_some] at h0
    rw [show 1 + 4 * 0 = 0 + 1 from rfl, List.take_succ_eq_append_getElem (by omega), List.take_zero, h0]; rfl
  | k + 1, hk => by
    rw [spPre, spPre_got hb hl h0 k (by omega)]
    have e1 : atL (spList bs m) k = rd4 bs k := by
      unfold atL spList
      rw [List.getElem?_map, List.getElem?_range (by omega)]; rfl
    rw [e1, rd4]
    have hl4 : ((bs.drop (1 + 4 * k)).take 4).length = 4 := by rw [List.length_take, List.length_drop]; omega
    have e2 := be_told ((bs.drop (1 + 4 * k)).take 4) (fun x hx => hb x (List.mem_of_mem_drop (List.mem_of_mem_take hx)))
    rw [hl4] at e2
    rw [e2, show 1 + 4 * (k + 1) = (1 + 4 * k) + 4 by omega]
    exact List.take_add.symm
def lenV2 (v : Value) : Nat := match v with | .slice _ n _ => n | _ => 0
theorem info_spotG : (Tryz.prog.info? 73).map (fun i => (i.zero, i.size, i.bytes)) = some (some (.int .u32 0), 1, 4) := by kernel_rfl
theorem spPre_zero (n : Nat) (f : Nat → Int) : ∀ k, (spPre n f k)[0]? = some (n : Int)
  | 0 => rfl
  | k + 1 => by rw [spPre, List.getElem?_append_left (by rw [spPre_length]; omega)]; exact spPre_zero n f k
theorem u8L_inj {a b : List Int} (ha : ∀ x ∈ a, 0 ≤ x ∧ x ≤ 255) (hb : ∀ x ∈ b, 0 ≤ x ∧ x ≤ 255) (h : (⟨(u8L a).toArray⟩ : ByteArray) = ⟨(u8L b).toArray⟩) : a = b := by
  injection h with h
  have h2 := congrArg Array.toList h
  simp only [List.toList_toArray] at h2
  rw [← u8L_back ha, ← u8L_back hb, h2]
/-- What the document's GetSpots answers. -/
def RSpGot (w : World) (bs : List Int) (n : Nat) (e : Ending) (w' : World) : Prop :=
  ((∃ m A c, GsOk bs n m ∧ e = .returned (.tuple #[.slice A m c, .int .i64 0]) ∧ Rd w' .u32 A m (spList bs m)) ∨ ((¬ ∃ m, GsOk bs n m) ∧ e = .returned (.tuple #[.slice none 0 0, .int .i64 4]))) ∧ Below w.heap.size w w'
set_option maxRecDepth 100000 in
set_option maxHeartbeats 4000000 in
theorem rgetspots_any (A : Option Addr) (n c : Nat) (bs : List Int) (w : World) (r : Rd w .u8 A n bs) (l : n ≤ c) (hz : A = none → c = 0) :
    Calls Tryz.prog 8 #[.slice A n c] w (RSpGot w bs n) := by
  have hbig := r.big
  have HR := Lib.hid r
  have HLC := Lib.hid l
  have HZ := Lib.hid hz
  have HBY : Hid (∀ x ∈ bs, 0 ≤ x ∧ x ≤ 255) := Lib.hid (rd_bytes r)
  have HBL := Lib.hid r.len
  clear r hz
  go_enter Tryz.func8, Tryz.ntmps8
  go_wp2_with fail
  go_loopw [4, 5] (fun v i wr => ∃ k a : Nat, k ≤ 5 ∧ (a ≤ 1 + 4 * k ∧ 1 + 4 * k ≤ a) ∧ i = .int .i64 (a : Int) ∧ (k = 0 ∨ a ≤ n) ∧ wr.ownsRow w.heap.size 73 1 v k ((spList bs k).map (Value.int .u32)) ∧ Below w.heap.size w wr) (fun v _ _ => 5 - lenV2 v)
  case atStart => exact ⟨0, 1, by omega, ⟨by omega, by omega⟩, rfl, .inl rfl, own_nil _ _ _ _, Below.refl _ _⟩
  case round =>
    obtain ⟨k, a, hk, ⟨hak1, hak2⟩, rfl, hka, ho, hB⟩ := hrel
    have hak : a = 1 + 4 * k := by omega
    obtain ⟨AV, cv, rfl, hkc, hcm, -⟩ := own_slice ho
    have HO := Lib.hid ho
    have HB := Lib.hid hB
    have HAK := Lib.hid hak
    have hwa : IntKind.i64.wrap ((a : Int) + 4) = (a : Int) + 4 := IntWalk.i64_in _ (by omega)
    clear ho hB hak1 hak2 hak
    by_cases hgo : a + 4 ≤ n ∧ k ≤ 4
    · obtain ⟨g1, g2⟩ := hgo
      have f1 : ((a : Int) + 4 ≤ (n : Int)) = True := eq_true (by omega)
      have f2 : ((k : Int) ≤ 4) = True := eq_true (by omega)
      obtain ⟨A', s1, s2, s3⟩ := slice_from A n c a (by omega) HLC.out HZ.out
      have hg := refget_any A' (n - a) (c - a) (bs.drop a) 4 wr (s2 wr bs (HR.out.below HB.out)) (by omega)
      have e1 : getE (n - a) 4 = 0 := by unfold getE; rw [if_neg (by omega), if_neg (by omega)]
      have e2 : getN (bs.drop a) (n - a) 4 = rd4 bs k := by unfold getN; rw [if_pos e1, rd4, HAK.out]; rfl
      rw [e1, e2] at hg
      have hrb := rd4_bound HBY.out k
      have hsp := spList_succ bs k
      obtain ⟨x, hx⟩ : ∃ x, rd4 bs k = x := ⟨_, rfl⟩
      rw [hx] at hg hrb hsp
      obtain ⟨ys, hys⟩ : ∃ ys, spList bs k = ys := ⟨_, rfl⟩
      rw [hys] at hsp HO
      have HG := Lib.hid hg
      have HSP := Lib.hid hsp
      have hwx : IntKind.u32.wrap x = x := IntWalk.u32_in _ (by omega)
      clear s2 s3 hg e1 e2 hsp hx hys
      go_wp2_with fail
      refine HG.out.mono ?_; rintro e w2 ⟨rfl, hB2⟩
      have HO2 := Lib.hid ((Keeps.of_below (M := fun _ => False) hB2).own HO.out (fun _ _ h => h))
      have HB2 := Lib.hid (HB.out.trans (hB2.mono HB.out.size))
      clear hB2
      go_wp2_with (at_builtin; refine append_int (W := w2) w.heap.size rfl _ _ 24 73 .u32 4 rfl Tryz.underlying24 info_spotG (by omega) (.slice AV k cv) k ys x rfl rfl HO2.out HB2.out.size (by omega) ?_; intro v1 w3 ho3 hk3 _; have HO3 := Lib.hid ho3; have HK3 := Lib.hid hk3; clear ho3 hk3)
      obtain ⟨A3, c3, rfl, -, -, -⟩ := own_slice HO3.out
      go_roundw
      case rel => exact ⟨k + 1, a + 4, by omega, ⟨by have := HAK.out; omega, by have := HAK.out; omega⟩, by go_num, .inr (by omega), by rw [HSP.out]; exact HO3.out, below_keeps HB2.out HK3.out (Nat.le_refl _) (fun i hi => (own_base HO2.out i hi).1)⟩
      case measure => simp [lenV2]; omega
    · have HRL := Lib.hid (own_rdS HO.out (fun x hx => by
        obtain ⟨j, _, rfl⟩ := List.mem_map.1 hx
        exact rd4_bound HBY.out j) (by omega))
      have HPU := Lib.hid (rputspots_any AV k cv (spList bs k) wr HRL.out)
      have HSTOP : Hid (∀ m, GsOk bs n m → m = k) := Lib.hid (fun m hm => by
        obtain ⟨h1, h2, h3, h4⟩ := hm
        have := HAK.out
        omega)
      have HLEN := Lib.hid (show n < a + 4 ∨ 4 < k by omega)
      have hgo2 : ((a : Int) + 4 ≤ (n : Int)) = False ∨ (((a : Int) + 4 ≤ (n : Int)) = True ∧ ((k : Int) ≤ 4) = False) := by
        by_cases h : a + 4 ≤ n
        · exact .inr ⟨eq_true (by omega), eq_false (by omega)⟩
        · exact .inl (eq_false (by omega))
      clear hgo
      rcases hgo2 with f1 | ⟨f1, f2⟩
      · skip
        go_wp2_with fail
        refine HPU.out.mono ?_; rintro e w2 ⟨hr, hB2⟩
        have HRB := Lib.hid (HR.out.below (HB.out.trans (hB2.mono HB.out.size)))
        have HRL2 := Lib.hid (HRL.out.below hB2)
        have HB2 := Lib.hid (HB.out.trans (hB2.mono HB.out.size))
        clear hB2
        rcases hr with ⟨hok, A2, c2, rfl, hr2, -, -⟩ | ⟨hno, rfl⟩
        · have hk14 : 1 ≤ k ∧ k ≤ 4 := ⟨hok.1, hok.2.1⟩
          have hn5 : 5 ≤ n := by rcases hka with h | h <;> have := HAK.out <;> omega
          obtain ⟨b, off, rfl, -, -⟩ := HRB.out.row (by omega)
          obtain ⟨b2, off2, rfl, -, -⟩ := hr2.row (by omega)
          have hcv1 := conv_rd (c := c2) hr2 (by omega)
          have hcv2 := conv_rd (c := c) HRB.out (by omega)
          have HOK := Lib.hid hok
          have hpb : ∀ x ∈ spPre k (atL (spList bs k)) k, 0 ≤ x ∧ x ≤ 255 := spPre_byte k _ (by omega) k
          have hinj := u8L_inj hpb HBY.out
          by_cases hq : spPre k (atL (spList bs k)) k = bs
          · rw [hq] at hcv1
            have HGS : Hid (GsOk bs n k) := Lib.hid ⟨hk14.2, by rw [← hq, spPre_zero]; rfl, by rw [← HBL.out, ← hq, spPre_length], HOK.out⟩
            generalize (⟨(u8L bs).toArray⟩ : ByteArray) = X at hcv1 hcv2
            clear hq hok hr2 hpb hinj
            go_wp2_with fail
            go_ret2
            exact ⟨.inl ⟨k, AV, cv, HGS.out, rfl, HRL2.out⟩, HB2.out⟩
          · have HNO : Hid (¬ ∃ m, GsOk bs n m) := Lib.hid (fun ⟨m, h⟩ => hq (by
              have hm := HSTOP.out m h
              subst hm
              obtain ⟨h1, h2, h3, h4⟩ := h
              rw [spPre_got HBY.out (by rw [HBL.out, h3]) h2 m (Nat.le_refl _), List.take_of_length_le (by rw [HBL.out]; omega)]))
            have hne : (⟨(u8L (spPre k (atL (spList bs k)) k)).toArray⟩ : ByteArray) ≠ ⟨(u8L bs).toArray⟩ := fun h => hq (hinj h)
            have q1 : ((⟨(u8L (spPre k (atL (spList bs k)) k)).toArray⟩ : ByteArray).toList == (⟨(u8L bs).toArray⟩ : ByteArray).toList) = false := by
              rw [ByteArray.toList_mk, ByteArray.toList_mk]
              exact beq_eq_false_iff_ne.2 (fun h => hne (by rw [h]))
            generalize (⟨(u8L (spPre k (atL (spList bs k)) k)).toArray⟩ : ByteArray) = X at hcv1 q1 hne
            generalize (⟨(u8L bs).toArray⟩ : ByteArray) = Y at hcv2 q1 hne
            clear hq hok hr2 hpb hinj hne
            go_wp2_with fail
            go_ret2
            exact ⟨.inr ⟨HNO.out, rfl⟩, HB2.out⟩
        · have HNO : Hid (¬ ∃ m, GsOk bs n m) := Lib.hid (fun ⟨m, h⟩ => hno (by
            have hm := HSTOP.out m h
            subst hm
            exact h.2.2.2))
          clear hno
          go_wp2_with fail
          go_ret2
          exact ⟨.inr ⟨HNO.out, rfl⟩, HB2.out⟩
      · skip
        go_wp2_with fail
        refine HPU.out.mono ?_; rintro e w2 ⟨hr, hB2⟩
        have HRB := Lib.hid (HR.out.below (HB.out.trans (hB2.mono HB.out.size)))
        have HRL2 := Lib.hid (HRL.out.below hB2)
        have HB2 := Lib.hid (HB.out.trans (hB2.mono HB.out.size))
        clear hB2
        rcases hr with ⟨hok, A2, c2, rfl, hr2, -, -⟩ | ⟨hno, rfl⟩
        · have hk14 : 1 ≤ k ∧ k ≤ 4 := ⟨hok.1, hok.2.1⟩
          have hn5 : 5 ≤ n := by rcases hka with h | h <;> have := HAK.out <;> omega
          obtain ⟨b, off, rfl, -, -⟩ := HRB.out.row (by omega)
          obtain ⟨b2, off2, rfl, -, -⟩ := hr2.row (by omega)
          have hcv1 := conv_rd (c := c2) hr2 (by omega)
          have hcv2 := conv_rd (c := c) HRB.out (by omega)
          have HOK := Lib.hid hok
          have hpb : ∀ x ∈ spPre k (atL (spList bs k)) k, 0 ≤ x ∧ x ≤ 255 := spPre_byte k _ (by omega) k
          have hinj := u8L_inj hpb HBY.out
          by_cases hq : spPre k (atL (spList bs k)) k = bs
          · rw [hq] at hcv1
            have HGS : Hid (GsOk bs n k) := Lib.hid ⟨hk14.2, by rw [← hq, spPre_zero]; rfl, by rw [← HBL.out, ← hq, spPre_length], HOK.out⟩
            generalize (⟨(u8L bs).toArray⟩ : ByteArray) = X at hcv1 hcv2
            clear hq hok hr2 hpb hinj
            go_wp2_with fail
            go_ret2
            exact ⟨.inl ⟨k, AV, cv, HGS.out, rfl, HRL2.out⟩, HB2.out⟩
          · have HNO : Hid (¬ ∃ m, GsOk bs n m) := Lib.hid (fun ⟨m, h⟩ => hq (by
              have hm := HSTOP.out m h
              subst hm
              obtain ⟨h1, h2, h3, h4⟩ := h
              rw [spPre_got HBY.out (by rw [HBL.out, h3]) h2 m (Nat.le_refl _), List.take_of_length_le (by rw [HBL.out]; omega)]))
            have hne : (⟨(u8L (spPre k (atL (spList bs k)) k)).toArray⟩ : ByteArray) ≠ ⟨(u8L bs).toArray⟩ := fun h => hq (hinj h)
            have q1 : ((⟨(u8L (spPre k (atL (spList bs k)) k)).toArray⟩ : ByteArray).toList == (⟨(u8L bs).toArray⟩ : ByteArray).toList) = false := by
              rw [ByteArray.toList_mk, ByteArray.toList_mk]
              exact beq_eq_false_iff_ne.2 (fun h => hne (by rw [h]))
            generalize (⟨(u8L (spPre k (atL (spList bs k)) k)).toArray⟩ : ByteArray) = X at hcv1 q1 hne
            generalize (⟨(u8L bs).toArray⟩ : ByteArray) = Y at hcv2 q1 hne
            clear hq hok hr2 hpb hinj hne
            go_wp2_with fail
            go_ret2
            exact ⟨.inr ⟨HNO.out, rfl⟩, HB2.out⟩
        · have HNO : Hid (¬ ∃ m, GsOk bs n m) := Lib.hid (fun ⟨m, h⟩ => hno (by
            have hm := HSTOP.out m h
            subst hm
            exact h.2.2.2))
          clear hno
          go_wp2_with fail
          go_ret2
          exact ⟨.inr ⟨HNO.out, rfl⟩, HB2.out⟩
end Go.Proofs.YtgecfcdafbedaaaGreat

namespace Go.Proofs.YtgecfcdafbedaaaGreat
open Go.RowKit
set_option linter.unusedSimpArgs false
set_option linter.unusedVariables false

theorem take_eq_of {α : Type} (l m : List α) (h : ∀ j, j < l.length → l[j]? = m[j]?) (hl : l.length = m.length) : l = m := by
  apply List.ext_getElem? 
  intro i
  rcases Nat.lt_or_ge i l.length with h1 | h1
  · exact h i h1
  · rw [List.getElem?_eq_none h1, List.getElem?_eq_none (by omega)]

set_option maxRecDepth 100000 in
set_option maxHeartbeats 1000000 in
theorem same_any (A0 : Option Addr) (n0 c0 : Nat) (x0 : List Int) (A1 : Option Addr) (n1 c1 : Nat) (x1 : List Int) (w : World) (r0 : Rd w .u8 A0 n0 x0) (r1 : Rd w .u8 A1 n1 x1) :
    Calls Tryz.prog 24 #[.slice A0 n0 c0, .slice A1 n1 c1] w fun e w' => e = .returned (.bool (decide (x0 = x1))) ∧ Drawn w w' := by
  have h0 := r0.len
  have h1 := r1.len
  have b0 := r0.big
  have b1 := r1.big
  by_cases hn : n0 = n1
  · subst hn
    go_enter Tryz.func24, Tryz.ntmps24
    go_wp2_with fail
    go_loopw [5] (fun i wr => ∃ k : Nat, k ≤ n0 ∧ i = .int .i64 k ∧ (∀ j, j < k → x0[j]? = x1[j]?) ∧ Drawn w wr) (fun i _ => n0 - (intOf i).toNat)
    case atStart => exact ⟨0, Nat.zero_le _, rfl, fun j hj => absurd hj (by omega), Drawn.refl _⟩
    case round =>
      obtain ⟨k, hk, rfl, hpre, q, rfl⟩ := hrel
      by_cases hlt : k < n0
      · obtain ⟨a, oa, rfl, _, ha⟩ := r0.row (by omega)
        obtain ⟨b, ob, rfl, _, hb⟩ := r1.row (by omega)
        have hca := ha k hlt
        have hcb := hb k hlt
        obtain ⟨u, hu⟩ : ∃ u, x0[k]?.getD 0 = u := ⟨_, rfl⟩
        obtain ⟨v, hv⟩ : ∃ v, x1[k]?.getD 0 = v := ⟨_, rfl⟩
        rw [hu] at hca
        rw [hv] at hcb
        have i0 : (0 : Int) ≤ (k : Int) := by omega
        have i1 : (k : Int) < (n0 : Int) := by omega
        have HPRE := Lib.hid hpre
        have hk0 : x0[k]? = some u := by rw [← hu, List.getElem?_eq_getElem (by omega)]; rfl
        have hk1 : x1[k]? = some v := by rw [← hv, List.getElem?_eq_getElem (by omega)]; rfl
        have HK0 := Lib.hid hk0
        have HK1 := Lib.hid hk1
        clear hpre ha hb hu hv hk0 hk1
        by_cases huv : u = v
        · subst huv
          go_wp2_with fail
          go_quiet (fail)
          go_wp2_with fail
          go_roundw
          case rel =>
            refine ⟨k + 1, by omega, by go_num, ?_, _, rfl⟩
            intro j hj
            rcases Nat.lt_or_ge j k with h | h
            · exact HPRE.out j h
            · obtain rfl : j = k := by omega
              rw [HK0.out, HK1.out]
          case measure => simp [intOf]; omega
        · go_wp2_with fail
          go_quiet (fail)
          go_wp2_with fail
          go_ret
          refine ⟨ret_bool ?_, (Drawn.refl w).step _ |>.step _⟩
          rw [eq_comm, decide_eq_false_iff_not]
          intro e
          subst e
          rw [HK0.out] at HK1
          exact huv (Option.some.inj HK1.out)
      · obtain rfl : k = n0 := by omega
        have hx : x0 = x1 := take_eq_of _ _ (fun j hj => hpre j (by omega)) (by omega)
        go_wp2_with fail
        go_ret
        exact ⟨ret_bool (by simp [hx]), _, rfl⟩
  · have hx : decide (x0 = x1) = false := by
      rw [decide_eq_false_iff_not]
      intro e
      subst e
      omega
    rw [hx]
    clear hx
    go_enter Tryz.func24, Tryz.ntmps24
    go_wp2_with fail
    go_ret
    exact ⟨rfl, Drawn.refl _⟩
end Go.Proofs.YtgecfcdafbedaaaGreat
