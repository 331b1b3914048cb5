/- The walks over params.Find, With, Below: in memory of their own; The walks over covers: a sum by a key, how it is made, whether a piece stands from a type on. -/
import Derived.Test.YtadpgodmkodgdaaXRGuidesRoom30
import Derived.Test.YtadpgodmkodgdaaXRGuidesRoom17
import Derived.Test.YtadpgodmkodgdaaXRGuidesRoom24
import Derived.Test.YtadpgodmkodgdaaXRGuidesRoom25
namespace Go.Proofs.Ytadpgodmkodgdaa
open Go.RowKit
set_option linter.unusedSimpArgs false
set_option linter.unusedVariables false

def FindRes (w : World) (ps : List Piece) (t : Int) (e : Ending) (w' : World) : Prop :=
  (paFind ps t = none ∧ e = .returned (.tuple #[.slice none 0 0, .bool false]) ∧ Below w.heap.size w w') ∨
  ∃ body B, paFind ps t = some body ∧ e = .returned (.tuple #[.slice B body.length body.length, .bool true]) ∧ RowG 5 1 w.heap.size w' (.slice B body.length body.length) body.length (body.map (Value.int .u8)) ∧ Below w.heap.size w w'
theorem run_body (W : World) (t : Int) (B : Option Addr) (m c : Nat) : (Instr.field 69 (.agg #[.int .u16 t, .slice B m c]) 1).run Try.prog W = .ok (.slice B m c) W := by kernel_rfl
theorem find_of {ps : List Piece} {t : Int} {k : Nat} {p : Piece} (hpre : ∀ j u, j < k → (ps.map (·.1))[j]? = some u → decide (u = t) = false) (hp : ps[k]? = some p) (ht : p.1 = t) : paFind ps t = some p.2 := by
  have hg := List.getElem?_eq_some_iff.1 hp
  have e : ps = ps.take k ++ p :: ps.drop (k + 1) := by
    conv => lhs; rw [← List.take_append_drop k ps, List.drop_eq_getElem_cons hg.1, hg.2]
  have h0 : (ps.take k).find? (fun q => q.1 == t) = none := by
    rw [List.find?_eq_none]
    intro q hq
    obtain ⟨j, hj⟩ := List.mem_iff_getElem?.1 hq
    have hjk : j < k := by have := (List.getElem?_eq_some_iff.1 hj).1; simp at this; omega
    rw [List.getElem?_take, if_pos hjk] at hj
    have := hpre j q.1 hjk (by rw [List.getElem?_map, hj]; rfl)
    simpa using this
  rw [paFind, e, List.find?_append, h0]
  simp [ht]

set_option maxRecDepth 100000 in
set_option maxHeartbeats 2000000 in
theorem find_any (A : Option Addr) (n c : Nat) (t : Int) (ps : List Piece) (w : World) (hps : Ps w A n ps) (hn : n < 1099511627776) :
    Calls Try.prog 14 #[.slice A n c, .int .u16 t] w (FindRes w ps t) := by
  have hB := new_belowB w (.cells #[.int .u16 t] 52)
  have hkk : Blk (w.alloc (.cells #[.int .u16 t] 52)) w.heap.size 52 [.int .u16 t] := Blk.new w 52 [.int .u16 t]
  have hidx := idxp_any 25 eg_findc (.pointer (some ⟨w.heap.size, 0, none⟩)) (fun u => decide (u = t)) A n c (ps.map (·.1)) _ ((hps.tyRow hn).below hB)
    (fun W u B m c hW => findc_any u t B m c w.heap.size W (Nat.lt_of_lt_of_le hkk.lt hW.size) ((hW.cell (p := ⟨w.heap.size, 0, none⟩) hkk.lt).trans (hkk.cell 0)))
  have HIDX := Lib.hid hidx
  have HPS := Lib.hid hps
  have HB := Lib.hid hB
  clear hidx hps hB hkk
  go_enter Try.func14, Try.ntmps14
  go_wp2_with fail
  refine HIDX.out.mono ?_; rintro e w1 ⟨r, rfl, hr, hB1⟩
  have hB1' := HB.out.trans (hB1.mono HB.out.size)
  have HB1 := Lib.hid hB1'
  rcases hr with ⟨rfl, hall⟩ | ⟨k, rfl, hk, hpre, u, hu, hut⟩
  · have hf : paFind ps t = none := paFind_none.2 (fun p hp => by
      have := hall p.1 (List.mem_map_of_mem hp)
      simpa using this)
    have HF := Lib.hid hf
    clear hall hf hB1 hB1'
    go_wp2_with fail
    go_ret2
    exact .inl ⟨HF.out, rfl, HB1.out⟩
  · rw [List.length_map, HPS.out.len] at hk
    obtain ⟨b, off, rfl, hb, hc⟩ := (HPS.out.below hB1').row (by omega)
    obtain ⟨t1, body, B1, m1, d1, h1, h2, h3, h4, h5, h6, h7⟩ := hc k hk
    obtain rfl : body.length = m1 := h5.len
    have ht : t1 = t := by
      rw [List.getElem?_map, h1] at hu
      simp at hu
      subst hu
      simpa using hut
    subst ht
    have hf := find_of hpre h1 rfl
    have HF := Lib.hid hf
    have htw := twin1_any t1 B1 body.length d1 body w1 h5 h6 h7
    have HTW := Lib.hid htw
    have hfd := run_body
    have k0 : (0 : Int) ≤ (k : Int) := by omega
    have k1 : (k : Int) < (n : Int) := by omega
    have k2 : ¬ ((k : Int) < 0) := by omega
    clear hB1 hB1' hpre hu hut hc h1 h5 h7 hf htw HIDX
    go_wp2_with fail
    refine HTW.out.mono ?_; rintro e w2 ⟨B, rfl, hrow, hB2⟩
    have HROW := Lib.hid (hrow.lower HB1.out.size)
    have HB2 := Lib.hid (HB1.out.trans (hB2.mono HB1.out.size))
    clear hrow hB2
    go_wp2_with fail
    go_ret2
    exact .inr ⟨body, B, HF.out, rfl, HROW.out, HB2.out⟩

set_option maxRecDepth 100000 in
set_option maxHeartbeats 2000000 in
theorem below_any (A : Option Addr) (n c : Nat) (t : Int) (ps : List Piece) (w : World) (hps : Ps w A n ps) (hn : n < 1099511627776) :
    Calls Try.prog 65 #[.slice A n c, .int .u16 t] w fun e w' => ∃ G cells, e = .returned (.slice (some ⟨G, 0, none⟩) (paBelow ps t).length (paBelow ps t).length) ∧ PsOwn w.heap.size w' (.slice (some ⟨G, 0, none⟩) (paBelow ps t).length (paBelow ps t).length) (paBelow ps t) cells ∧ Below w.heap.size w w' := by
  have hB := new_belowB w (.cells #[.int .u16 t] 52)
  have hkk : Blk (w.alloc (.cells #[.int .u16 t] 52)) w.heap.size 52 [.int .u16 t] := Blk.new w 52 [.int .u16 t]
  have htw := twins_any A n c ps _ (hps.below hB) hn
  obtain ⟨w1, hw1⟩ : ∃ w1, w.alloc (.cells #[.int .u16 t] 52) = w1 := ⟨_, rfl⟩
  rw [hw1] at hB hkk htw
  have hl := hps.len
  have HW1 := Lib.hid hw1
  have HTW := Lib.hid htw
  have HB := Lib.hid hB
  have HKK := Lib.hid hkk
  have HL := Lib.hid hl
  clear hw1 htw hB hkk hps hl
  go_enter Try.func65, Try.ntmps65
  go_wp2_with fail
  rw [HW1.out]
  refine HTW.out.mono ?_; rintro e w2 ⟨hs, rest, rfl, hmp, hrest, hin, hblk, hB2⟩
  have hsl : hs.length = n := by
    have := congrArg List.length hmp
    rw [List.length_map, HL.out] at this
    exact this
  have hdel := deletef_any w1.heap.size n w.heap.size t hs rest w2 hsl hn hrest hblk (HKK.out.below hB2 HKK.out.lt)
  have HDEL := Lib.hid hdel
  have HMP := Lib.hid hmp
  have HIN := Lib.hid hin
  have HBLK := Lib.hid hblk
  have HB2 := Lib.hid hB2
  have HB02 := Lib.hid (HB.out.trans (hB2.mono HB.out.size))
  obtain ⟨G, hG⟩ : ∃ G, w1.heap.size = G := ⟨_, rfl⟩
  have hGb : w.heap.size ≤ G := by rw [← hG]; exact HB.out.size
  rw [hG] at HDEL HIN HBLK ⊢
  clear hdel hmp hin hblk hB2 hrest hsl hG HW1
  go_wp2_with fail
  refine HDEL.out.mono ?_; rintro e w3 ⟨m, rest', rfl, hm, hrest', hblk3, hk3⟩
  have hmle : m ≤ n + 1 := by
    have h1 := List.length_filter_le (fun h : Hd => decide (h.p.1 < t)) hs
    have h2 := congrArg List.length HMP.out
    rw [List.length_map, HL.out] at h2
    omega
  have hcp := clipP_all (some ⟨G, 0, none⟩) m (n + 1) w3 hmle
  have hpb := below_keep t hs
  rw [HMP.out] at hpb
  have hlen : m = (paBelow ps t).length := by rw [← hpb, List.length_map]; exact hm
  have hin3 : HdsIn w.heap.size w3 (hs.filter (fun h => decide (h.p.1 < t))) := (((HIN.out.sub List.filter_sublist).keepP hk3 HBLK.out)).lower hGb
  have hrow3 : RowG 69 2 w.heap.size w3 (.slice (some ⟨G, 0, none⟩) m m) m (hcells (hs.filter (fun h => decide (h.p.1 < t)))) :=
    RowG.of_blk hblk3 hGb (cap := n + 1) (by rw [List.length_append, hcells_length, ← hm, hrest']; omega) (Nat.le_refl _) hmle (by unfold maxLen; omega) (by rw [hcells_length, ← hm]) (by
      rw [List.take_append_of_le_length (by rw [hcells_length, ← hm]; exact Nat.le_refl _), List.take_of_length_le (by rw [hcells_length, ← hm]; exact Nat.le_refl _)])
  rw [hm] at hrow3
  have hown := hin3.psOwn hrow3
  rw [hpb, ← hm] at hown
  have hbf := below_keeps HB02.out hk3 (Nat.le_refl _) (fun i hi => by rw [hi]; exact hGb)
  have HCP := Lib.hid hcp
  have HOWN := Lib.hid hown
  have HBF := Lib.hid hbf
  have HLEN := Lib.hid hlen
  clear hcp hpb hm hrest' hblk3 hk3 hlen hin3 hrow3 hown hbf hmle
  go_wp2_with fail
  refine HCP.out.mono ?_; rintro e w4 ⟨rfl, rfl⟩
  go_wp2_with fail
  go_ret
  have hlen := HLEN.out
  exact ⟨G, _, by rw [← hlen]; rfl, by rw [← hlen]; exact HOWN.out, HBF.out⟩

/-- What With answers. -/
def WithRes (w : World) (ps : List Piece) (p : Piece) (e : Ending) (w' : World) : Prop :=
  (withE ps p.1 ≠ 0 ∧ e = .returned (.tuple #[.slice none 0 0, .int .i64 (withE ps p.1)]) ∧ Below w.heap.size w w') ∨
  ∃ G cells, withE ps p.1 = 0 ∧ e = .returned (.tuple #[.slice (some ⟨G, 0, none⟩) (ps.length + 1) (ps.length + 1), .int .i64 0]) ∧ PsOwn w.heap.size w' (.slice (some ⟨G, 0, none⟩) (ps.length + 1) (ps.length + 1)) (withL ps p) cells ∧ Below w.heap.size w w'
theorem rises_len : ∀ {ps : List Piece} {last : Int}, rises last ps = true → last ≤ 65535 → (∀ p ∈ ps, p.1 ≤ 65535) → last + ps.length ≤ 65535
  | [], last, _, h, _ => by simpa using h
  | q :: ps, last, h, _, hp => by
    simp only [rises, Bool.and_eq_true, decide_eq_true_eq] at h
    have := rises_len h.2 (hp q (by simp)) (fun p hq => hp p (by simp [hq]))
    rw [List.length_cons]
    omega
theorem hlen_of {hs : List Hd} {ps : List Piece} {n : Nat} (h : hs.map (·.p) = ps) (hl : ps.length = n) : hs.length = n := by rw [← hl, ← h, List.length_map]
theorem has_find {ps : List Piece} {t : Int} : hasT (ps.map (·.1)) t = (paFind ps t).isSome := by
  rw [Bool.eq_iff_iff, hasT, decide_eq_true_iff, paFind_some, List.mem_map]

set_option maxRecDepth 100000 in
set_option maxHeartbeats 4000000 in
theorem with_any (A : Option Addr) (n c : Nat) (t : Int) (B : Option Addr) (m d : Nat) (body : List Int) (ps : List Piece) (w : World) (hps : Ps w A n ps) (ht : 0 ≤ t ∧ t ≤ 65535) (hrd : Rd w .u8 B m body) (hmd : m ≤ d) (hz : B = none → d = 0) :
    Calls Try.prog 46 #[.slice A n c, .agg #[.int .u16 t, .slice B m d]] w (WithRes w ps (t, body)) := by
  obtain rfl : body.length = m := hrd.len
  have hB := new_belowB w (.cells #[.int .u16 t, .slice B body.length d] 69)
  have hkp : Blk (w.alloc (.cells #[.int .u16 t, .slice B body.length d] 69)) w.heap.size 69 [.int .u16 t, .slice B body.length d] := Blk.new w 69 [.int .u16 t, .slice B body.length d]
  have hmay := pamay_any A n c ps _ (hps.below hB)
  obtain ⟨w1, hw1⟩ : ∃ w1, w.alloc (.cells #[.int .u16 t, .slice B body.length d] 69) = w1 := ⟨_, rfl⟩
  rw [hw1] at hB hkp hmay
  have hl := hps.len
  have HW1 := Lib.hid hw1
  have HMAY := Lib.hid hmay
  have HB := Lib.hid hB
  have HKP := Lib.hid hkp
  have HPS := Lib.hid hps
  have HL := Lib.hid hl
  have HRD := Lib.hid hrd
  have HZ := Lib.hid hz
  obtain ⟨P, hP⟩ : ∃ P, w.heap.size = P := ⟨_, rfl⟩
  rw [hP] at HKP
  have HP := Lib.hid hP
  have hPb : w.heap.size ≤ P := by omega
  have p0 : w1.cell? ⟨P, 0, none⟩ = some (.int .u16 t) := HKP.out.cell 0
  have p1 : w1.cell? ⟨P, 1, none⟩ = some (.slice B body.length d) := HKP.out.cell 1
  have hcases := withE_cases ps t
  have HC := Lib.hid hcases
  clear hw1 hmay hB hkp hps hl hrd hz hcases
  cases hr : rises 0 ps with
  | false =>
    have hE : withE ps t = 1 := by unfold withE; rw [if_pos hr]
    have HE := Lib.hid hE
    rw [hr] at HMAY
    clear hE hr
    go_enter Try.func46, Try.ntmps46
    go_wp2_with fail
    rw [HW1.out]; clear hP
    refine HMAY.out.mono ?_; rintro e w2 ⟨rfl, hB2⟩
    have HB2 := Lib.hid (HB.out.trans (hB2.mono HB.out.size))
    clear hB2
    go_wp2_with fail
    go_ret2
    exact .inl ⟨by rw [HE.out]; omega, by rw [HE.out]; rfl, HB2.out⟩
  | true =>
    have hn : n < 1099511627776 := by
      have h1 := rises_len hr (by omega) (fun p hp => (ps_ok HPS.out p hp).2.1)
      have h2 := HL.out
      omega
    rw [hr] at HMAY
    by_cases ht0 : t = 0
    · have hE : withE ps t = 1 := by unfold withE; rw [if_neg (by rw [hr]; simp), if_pos ht0]
      have HE := Lib.hid hE
      have hq : (t == 0) = true := beq_iff_eq.2 ht0
      clear hE hr ht0
      go_enter Try.func46, Try.ntmps46
      go_wp2_with fail
      rw [HW1.out]; clear hP
      refine HMAY.out.mono ?_; rintro e w2 ⟨rfl, hB2⟩
      have HB2 := Lib.hid (HB.out.trans (hB2.mono HB.out.size))
      have c0 : w2.cell? ⟨P, 0, none⟩ = some (.int .u16 t) := (hB2.cell (p := ⟨P, 0, none⟩) HKP.out.lt).trans p0
      clear hB2 p0 p1
      go_wp2_with fail
      go_ret2
      exact .inl ⟨by rw [HE.out]; omega, by rw [HE.out]; rfl, HB2.out⟩
    · have hq : (t == 0) = false := beq_eq_false_iff_ne.2 ht0
      have HR := Lib.hid hr
      have HT0 := Lib.hid ht0
      clear hr ht0
      go_enter Try.func46, Try.ntmps46
      go_wp2_with fail
      rw [HW1.out]; clear hP
      refine HMAY.out.mono ?_; rintro e w2 ⟨rfl, hB2⟩
      have hB02 := HB.out.trans (hB2.mono HB.out.size)
      have c0 : w2.cell? ⟨P, 0, none⟩ = some (.int .u16 t) := (hB2.cell (p := ⟨P, 0, none⟩) HKP.out.lt).trans p0
      have c1 : w2.cell? ⟨P, 1, none⟩ = some (.slice B body.length d) := (hB2.cell (p := ⟨P, 1, none⟩) HKP.out.lt).trans p1
      have hkp2 := HKP.out.below hB2 HKP.out.lt
      have hps2 := HPS.out.below hB02
      have hok := ps_ok HPS.out
      have hbs := bins_any A n c t (ps.map (·.1)) w2 (hps2.tyRow hn) (fun u hu => by
        obtain ⟨p, hp, rfl⟩ := List.mem_map.1 hu
        exact ⟨(hok p hp).1, (hok p hp).2.1⟩) ht (fun i j u v hij hi hj => by
        rw [List.getElem?_map, Option.map_eq_some_iff] at hi hj
        obtain ⟨p, hp, rfl⟩ := hi
        obtain ⟨q, hq, rfl⟩ := hj
        exact rises_at HR.out i j p q hij hp hq)
      have HBS := Lib.hid hbs
      have HKP2 := Lib.hid hkp2
      have HB02 := Lib.hid hB02
      clear hbs hkp2 hB02 hps2 hok hB2 p0 p1
      go_wp2_with fail
      refine HBS.out.mono ?_; rintro e w3 ⟨i, rfl, hin, hlo, hhi, hB3⟩
      have hB03 := HB02.out.trans (hB3.mono HB02.out.size)
      have hkp3 := HKP2.out.below hB3 HKP2.out.lt
      rw [has_find]
      have HB03 := Lib.hid hB03
      have HKP3 := Lib.hid hkp3
      have HLO := Lib.hid hlo
      have HHI := Lib.hid hhi
      have d0 : w3.cell? ⟨P, 0, none⟩ = some (.int .u16 t) := hkp3.cell 0
      have d1 : w3.cell? ⟨P, 1, none⟩ = some (.slice B body.length d) := hkp3.cell 1
      clear hB03 hkp3 hlo hhi hB3 c0 c1
      rcases HC.out with ⟨_, h | h⟩ | ⟨_, _, hf, hE⟩ | ⟨_, _, hf, h16, hE⟩ | ⟨_, _, hf, h16, hE⟩
      · rw [HR.out] at h; cases h
      · exact absurd h HT0.out
      · rw [hf]
        have HE := Lib.hid hE
        clear hE hf
        go_wp2_with fail
        go_ret2
        exact .inl ⟨by rw [HE.out]; omega, by rw [HE.out]; rfl, HB03.out⟩
      · rw [hf]
        have HE := Lib.hid hE
        have h16' : (16 : Int) ≤ (n : Int) := by have := HL.out; omega
        clear hE hf h16
        go_wp2_with fail
        go_ret2
        exact .inl ⟨by rw [HE.out]; omega, by rw [HE.out]; rfl, HB03.out⟩
      · rw [hf]
        have HE := Lib.hid hE
        have HF := Lib.hid hf
        have h16' : ¬ (16 : Int) ≤ (n : Int) := by have := HL.out; omega
        have htws : ∀ W, Below w3.heap.size w3 W → Calls Try.prog 64 #[.slice A n c] W fun e w' => ∃ hs rest, e = .returned (.slice (some ⟨W.heap.size, 0, none⟩) n (n + 1)) ∧ hs.map (·.p) = ps ∧ rest.length = 2 ∧ HdsIn W.heap.size w' hs ∧ Blk w' W.heap.size 69 (hcells hs ++ rest) ∧ Below W.heap.size W w' := fun W hW => twins_any A n c ps W (HPS.out.below (HB03.out.trans (hW.mono HB03.out.size))) hn
        have htw1 : ∀ W, Below w3.heap.size w3 W → Calls Try.prog 26 #[.agg #[.int .u16 t, .slice B body.length d]] W fun e w' => ∃ B', e = .returned (.agg #[.int .u16 t, .slice B' body.length body.length]) ∧ RowG 5 1 W.heap.size w' (.slice B' body.length body.length) body.length (body.map (Value.int .u8)) ∧ Below W.heap.size W w' := fun W hW => twin1_any t B body.length d body W (HRD.out.below (HB03.out.trans (hW.mono HB03.out.size))) hmd HZ.out
        have HTWS := Lib.hid htws
        have HTW1 := Lib.hid htw1
        have hP3 := HKP3.out.lt
        clear hE hf h16 htws htw1
        go_wp2_with fail
        refine wp_region_noPanic ?_
        refine wp_region_held_drew (S := (fun w' => w'.cell? ⟨P, 0, none⟩ = some (.int .u16 t) ∧ w'.cell? ⟨P, 1, none⟩ = some (.slice B body.length d))) (by kernel_rfl) ?_ (fun hHeld => ?_)
        · ((try dsimp only); refine ⟨?_, ?_⟩ <;> (first | assumption | (go_keep; done)))
        refine wpAnyH_take (i := 0) (oi := ⟨some 29, _, _, _, _, _⟩) (v := ?_) rfl (by kernel_rfl) (by kernel_rfl) (by kernel_rfl) (fun _ _ _ h => False.elim h) (Or.inl ⟨by rfl, ?_⟩) (by assumption) ?_
        rotate_left
        · intro w hSw
          (try dsimp only at hSw)
          go_simp
          all_goals with_reducible rfl
        (try simp only [Act.put, List.setIfInBounds_toArray, List.set_cons_zero, List.set_cons_succ])
        refine wpAnyH_take (i := 2) (oi := ⟨some 31, _, _, _, _, _⟩) (v := ?_) rfl (by kernel_rfl) (by kernel_rfl) (by kernel_rfl) (fun _ _ _ h => False.elim h) (Or.inl ⟨by rfl, ?_⟩) (by assumption) ?_
        rotate_left
        · intro w hSw
          (try dsimp only at hSw)
          go_simp
          all_goals with_reducible rfl
        (try simp only [Act.put, List.setIfInBounds_toArray, List.set_cons_zero, List.set_cons_succ])
        refine wpAnyH_take (i := 3) (oi := ⟨some 32, _, _, _, _, _⟩) (v := ?_) rfl (by kernel_rfl) (by kernel_rfl) (by kernel_rfl) (fun _ _ _ h => False.elim h) (Or.inl ⟨by rfl, ?_⟩) (by assumption) ?_
        rotate_left
        · intro w hSw
          (try dsimp only at hSw)
          go_simp
          all_goals with_reducible rfl
        (try simp only [Act.put, List.setIfInBounds_toArray, List.set_cons_zero, List.set_cons_succ])
        refine wpAnyH_ready (rs := [1]) (by kernel_rfl) (by simp) ?_
        refine AllReadyH.cons (o := ⟨some 30, _, _, _, _, _⟩) rfl (fun K hK => ?_) AllReadyH.nil
        go_simp
        (refine (HTWS.out _ (drew_belowB w3)).mono ?_; rintro e w4 ⟨hs, rest, rfl, hmp, hrest, hin4, hblk4, hB4⟩; have hB34 : Below w3.heap.size w3 w4 := (drew_belowB w3).trans hB4; have e0 : w4.cell? ⟨P, 0, none⟩ = some (.int .u16 t) := (hB34.cell (p := ⟨P, 0, none⟩) hP3).trans d0; have e1 : w4.cell? ⟨P, 1, none⟩ = some (.slice B body.length d) := (hB34.cell (p := ⟨P, 1, none⟩) hP3).trans d1; have hP4 : P < w4.heap.size := Nat.lt_of_lt_of_le hP3 hB34.size; have HMP := Lib.hid hmp; have HREST := Lib.hid hrest; have HIN4 := Lib.hid hin4; have HBLK4 := Lib.hid hblk4; have HB34 := Lib.hid hB34; clear hmp hrest hin4 hblk4 hB4 hB34)
        (try go_wp2_with fail)
        refine hK.out _ _ ?_ (fun hHeld => ?_)
        · ((try dsimp only); refine ⟨?_, ?_⟩ <;> (first | assumption | (go_keep; done)))
        clear hK K
        (try simp only [Act.put, List.setIfInBounds_toArray, List.set_cons_zero, List.set_cons_succ])
        refine wpAnyH_ready (rs := [4]) (by kernel_rfl) (by simp) ?_
        refine AllReadyH.cons (o := ⟨some 33, _, _, _, _, _⟩) rfl (fun K hK => ?_) AllReadyH.nil
        go_simp
        (refine (HTW1.out _ HB34.out).mono ?_; rintro e w5 ⟨B', rfl, hrow5, hB5⟩; have f0 : w5.cell? ⟨P, 0, none⟩ = some (.int .u16 t) := (hB5.cell (p := ⟨P, 0, none⟩) hP4).trans e0; have f1 : w5.cell? ⟨P, 1, none⟩ = some (.slice B body.length d) := (hB5.cell (p := ⟨P, 1, none⟩) hP4).trans e1; have hP5 : P < w5.heap.size := Nat.lt_of_lt_of_le hP4 hB5.size; have HROW5 := Lib.hid hrow5; have hsl : hs.length = n := hlen_of HMP.out HL.out; have hblk5 := (HBLK4.out.below hB5 HBLK4.out.lt); have f2 : (w5.alloc (.cells #[.int .u16 t, .slice B' body.length body.length] 69)).cell? ⟨P, 0, none⟩ = some (.int .u16 t) := ((new_belowB w5 _).cell (p := ⟨P, 0, none⟩) hP5).trans f0; have f3 : (w5.alloc (.cells #[.int .u16 t, .slice B' body.length body.length] 69)).cell? ⟨P, 1, none⟩ = some (.slice B body.length d) := ((new_belowB w5 _).cell (p := ⟨P, 1, none⟩) hP5).trans f1; have hP6 : P < (w5.alloc (.cells #[.int .u16 t, .slice B' body.length body.length] 69)).heap.size := Nat.lt_of_lt_of_le hP5 (new_belowB w5 _).size; have hPG : ¬ P = w3.drew.heap.size := Nat.ne_of_lt hP3; have HINS := Lib.hid (insert_any w3.drew.heap.size n i w5.heap.size hs rest ⟨(t, body), B', body.length⟩ (w5.alloc (.cells #[.int .u16 t, .slice B' body.length body.length] 69)) hin hn hsl HREST.out (hblk5.alloc _) (Blk.new w5 69 [.int .u16 t, .slice B' body.length body.length]) (by have := hblk5.lt; omega)); have HSL := Lib.hid hsl; have HBLK5 := Lib.hid hblk5; clear hsl hblk5; have HB5 := Lib.hid hB5; clear hrow5 hB5)
        (try go_wp2_with fail)
        refine hK.out _ _ ?_ (fun hHeld => ?_)
        · ((try dsimp only); refine ⟨?_, ?_⟩ <;> (first | assumption | (go_keep; done)))
        clear hK K
        (try simp only [Act.put, List.setIfInBounds_toArray, List.set_cons_zero, List.set_cons_succ])
        refine wpAnyH_ready (rs := [5]) (by kernel_rfl) (by simp) ?_
        refine AllReadyH.cons (o := ⟨some 34, _, _, _, _, _⟩) rfl (fun K hK => ?_) AllReadyH.nil
        go_simp
        (skip)
        (try go_wp2_with fail)
        refine hK.out _ _ ?_ (fun hHeld => ?_)
        · ((try dsimp only); refine ⟨?_, ?_⟩ <;> (first | assumption | (go_keep; done)))
        clear hK K
        (try simp only [Act.put, List.setIfInBounds_toArray, List.set_cons_zero, List.set_cons_succ])
        refine wpAnyH_ready (rs := [6]) (by kernel_rfl) (by simp) ?_
        refine AllReadyH.cons (o := ⟨some 35, _, _, _, _, _⟩) rfl (fun K hK => ?_) AllReadyH.nil
        go_simp
        (refine (HINS.out).mono ?_; rintro e w6 ⟨rfl, hblk6, hk6⟩; have g0 : w6.cell? ⟨P, 0, none⟩ = some (.int .u16 t) := (hk6.cell (p := ⟨P, 0, none⟩) hP6 hPG).trans f2; have g1 : w6.cell? ⟨P, 1, none⟩ = some (.slice B body.length d) := (hk6.cell (p := ⟨P, 1, none⟩) hP6 hPG).trans f3; have HBLK6 := Lib.hid hblk6; have HK6 := Lib.hid hk6; clear hblk6 hk6)
        (try go_wp2_with fail)
        refine hK.out _ _ ?_ (fun hHeld => ?_)
        · ((try dsimp only); refine ⟨?_, ?_⟩ <;> (first | assumption | (go_keep; done)))
        clear hK K
        (try simp only [Act.put, List.setIfInBounds_toArray, List.set_cons_zero, List.set_cons_succ])
        refine wpAnyH_ready (rs := [7]) (by kernel_rfl) (by simp) ?_
        refine AllReadyH.cons (o := ⟨some 36, _, _, _, _, _⟩) rfl (fun K hK => ?_) AllReadyH.nil
        go_simp
        (refine (clipP_all (some ⟨w3.drew.heap.size, 0, none⟩) (n + 1) (n + 1) w6 (Nat.le_refl _)).mono ?_; rintro e w7 ⟨rfl, rfl⟩)
        (try go_wp2_with fail)
        refine hK.out _ _ ?_ (fun hHeld => ?_)
        · ((try dsimp only); refine ⟨?_, ?_⟩ <;> (first | assumption | (go_keep; done)))
        clear hK K
        (try simp only [Act.put, List.setIfInBounds_toArray, List.set_cons_zero, List.set_cons_succ])
        refine wpAnyH_take (i := 8) (oi := ⟨some 4, _, _, _, _, _⟩) (v := ?_) rfl (by kernel_rfl) (by kernel_rfl) (by kernel_rfl) (fun _ _ _ h => False.elim h) (Or.inl ⟨by rfl, ?_⟩) (by assumption) ?_
        rotate_left
        · intro w hSw
          (try dsimp only at hSw)
          go_simp
          all_goals with_reducible rfl
        (try simp only [Act.put, List.setIfInBounds_toArray, List.set_cons_zero, List.set_cons_succ])
        refine wpAnyH_take (i := 9) (oi := ⟨some 5, _, _, _, _, _⟩) (v := ?_) rfl (by kernel_rfl) (by kernel_rfl) (by kernel_rfl) (fun _ _ _ h => False.elim h) (Or.inl ⟨by rfl, ?_⟩) (by assumption) ?_
        rotate_left
        · intro w hSw
          (try dsimp only at hSw)
          go_simp
          all_goals with_reducible rfl
        (try simp only [Act.put, List.setIfInBounds_toArray, List.set_cons_zero, List.set_cons_succ])
        refine wpAnyH_done (by kernel_rfl) ?_ _
        refine NoPanic.normal ?_
        go_wp2_with fail
        have hGw : w.heap.size ≤ w3.heap.size := HB03.out.size
        have hin5 : HdsIn w3.heap.size w5 hs := HdsIn.below (base := w3.heap.size) HIN4.out HB5.out
        have hbk : Blk (w5.alloc (.cells #[.int .u16 t, .slice B' body.length body.length] 69)) w3.heap.size 69 (hcells hs ++ rest) := HBLK5.out.alloc _
        have hin6 : HdsIn w3.heap.size w6 hs := (hin5.below (new_belowB w5 _)).keepP HK6.out hbk
        have hle4 : w3.heap.size ≤ w4.heap.size := HB34.out.size
        have hrow6 : RowG 5 1 w3.heap.size w6 (.slice B' body.length body.length) body.length (body.map (Value.int .u8)) := by
          have h1 := (HROW5.out.lower hle4).below (new_belowB w5 (.cells #[.int .u16 t, .slice B' body.length body.length] 69))
          refine h1.keep HK6.out (fun k hk e => ?_)
          subst e
          obtain ⟨_, _, cur, h2⟩ := h1.ty hk
          exact absurd (ty_one h2 hbk) (by decide)
        have hap : ∀ y ∈ hs.take i ++ hs.drop i, Ap ⟨(t, body), B', body.length⟩ y := fun y hy g hg hy2 => by
          rw [List.take_append_drop] at hy
          have h1 := HIN4.out.blk hy hy2
          have h2 := (HROW5.out.ty (k := g) (by simp only at hg; rw [hg]; rfl)).1
          omega
        have hins : HdsIn w3.heap.size w6 (hs.take i ++ ⟨(t, body), B', body.length⟩ :: hs.drop i) := HdsIn.mid (by rw [List.take_append_drop]; exact hin6) hrow6 hap
        have hsl := HSL.out
        have hlh : (hs.take i ++ (⟨(t, body), B', body.length⟩ : Hd) :: hs.drop i).length = n + 1 := by simp; omega
        have hrowf : RowG 69 2 w.heap.size w6 (.slice (some ⟨w3.heap.size, 0, none⟩) (n + 1) (n + 1)) (hs.take i ++ (⟨(t, body), B', body.length⟩ : Hd) :: hs.drop i).length (hcells (hs.take i ++ ⟨(t, body), B', body.length⟩ :: hs.drop i)) := by
          have hcl := hcells_length (hs.take i ++ (⟨(t, body), B', body.length⟩ : Hd) :: hs.drop i)
          rw [hlh] at hcl ⊢
          exact RowG.of_blk HBLK6.out hGw (cap := n + 1) hcl (Nat.le_refl _) (Nat.le_refl _) (by unfold maxLen; omega) hcl (List.take_of_length_le (by rw [hcl]; exact Nat.le_refl _))
        have hown := (hins.lower hGw).psOwn hrowf
        have hlo : ∀ k p, k < i → ps[k]? = some p → p.1 < t := fun k p hk hp => HLO.out k p.1 hk (by rw [List.getElem?_map, hp]; rfl)
        have hhi : ∀ k p, i ≤ k → ps[k]? = some p → t ≤ p.1 := fun k p hk hp => HHI.out k p.1 hk (by rw [List.getElem?_map, hp]; rfl)
        have hbt := below_take hlo hhi
        have hbl : (paBelow ps t).length = i := by rw [hbt, List.length_take, HL.out]; omega
        have hmap : (hs.take i ++ (⟨(t, body), B', body.length⟩ : Hd) :: hs.drop i).map (·.p) = withL ps (t, body) := by
          rw [withL_eq (p := (t, body)) HR.out HF.out]
          simp only
          rw [hbl, List.map_append, List.map_take, List.map_cons, List.map_drop, HMP.out]
        rw [hmap] at hown
        have hbf : Below w.heap.size w w6 := below_keeps (HB03.out.trans (((HB34.out.trans (HB5.out.mono HB34.out.size)).trans ((new_belowB w5 _).mono (HB34.out.trans (HB5.out.mono HB34.out.size)).size)).mono hGw)) HK6.out (Nat.le_refl _) (fun i hi => by rw [hi]; exact hGw)
        have HOWN := Lib.hid hown
        have HBF := Lib.hid hbf
        clear hown hbf hmap hbl hbt hlo hhi hrowf hlh hins hap hrow6 hin6 hbk hin5
        go_ret2
        refine .inr ⟨w3.heap.size, _, HE.out, ?_, by rw [HL.out]; exact HOWN.out, HBF.out⟩
        rw [HL.out]; rfl
end Go.Proofs.Ytadpgodmkodgdaa

namespace Go.Proofs.Ytadpgodmkodgdaa
open Go.RowKit
set_option linter.unusedSimpArgs false
set_option linter.unusedVariables false

def sealV (t : Int) (KB : Nat) : Value := .agg #[.int .u16 t, .func (.func 40) #[] #[.pointer (some ⟨KB, 0, none⟩)]]
def SealAns (t : Int) (key : List Int) (w : World) (e : Ending) (w' : World) : Prop :=
  ∃ KB, e = .returned (sealV t KB) ∧ w.heap.size ≤ KB ∧ Blk w' KB 41 (key.map (Value.int .u8)) ∧ Below w.heap.size w w'
def zSEAL : List Value := [.int .u16 0, .nilFunc]
theorem alloc_seal (W : World) (o : Oper) (ho : o.op = .alloc 87) (ev : Operand → Value) : (execOp ev o).run Try.prog W = .ok (.value (.pointer (some ⟨W.heap.size, 0, none⟩))) (W.alloc (.cells zSEAL.toArray 87)) := by
  obtain ⟨d, op, t, p, af, g⟩ := o
  simp only at ho
  subst ho
  kernel_rfl
set_option maxRecDepth 100000 in
set_option maxHeartbeats 4000000 in
theorem csum_any (t : Int) (key : List Int) (w : World) : Calls Try.prog 34 #[.int .u16 t, .agg (key.map (Value.int .u8)).toArray] w (SealAns t key w) := by
  obtain ⟨X, hX⟩ : ∃ X, key.map (Value.int .u8) = X := ⟨_, rfl⟩
  rw [hX]
  have HX := Lib.hid hX
  clear hX
  have HAL := Lib.hid alloc_seal
  have HU := Lib.hid Try.underlying87
  go_enter Try.func34, Try.ntmps34
  go_wp2_with (first
    | ((with_reducible refine wpList_isK (o := ⟨some 3, _, _, _, _, _⟩) ?_); refine wpList_boxT (o := ⟨some 3, .box 41 _, _, _, _, _⟩) rfl 41 _ rfl X rfl ?_; intro w1 HK1 HB1; obtain ⟨KB, hKB⟩ : ∃ R, w.heap.size = R := ⟨_, rfl⟩; rw [hKB] at HK1 ⊢; have HKB := Lib.hid hKB; clear hKB)
    | ((with_reducible refine wpList_isK (o := ⟨some 4, _, _, _, _, _⟩) ?_); refine wpList_allocT (o := ⟨some 4, .alloc 87, _, _, _, _⟩) rfl 87 zSEAL (fun W => HAL.out W _ rfl _) ?_; intro w2 HK2 HB2; obtain ⟨S, hS⟩ : ∃ R, w1.heap.size = R := ⟨_, rfl⟩; rw [hS] at HK2 ⊢; have HS := Lib.hid (show w.heap.size ≤ S ∧ KB ≠ S by have := HB1.out.size; have := HK1.out.lt; omega); have HB3 := Lib.hid (HB1.out.trans (HB2.out.mono HB1.out.size)); have HK3 := Lib.hid (HK1.out.below HB2.out HK1.out.lt); clear hS)
    | ((with_reducible refine wpList_isK (o := ⟨none, .store 87 (.tmp 4) (.tmp 7), _, _, _, _⟩) ?_); refine wpList_over (o := ⟨none, .store 87 (.tmp 4) _, _, _, _, _⟩) rfl 87 _ _ rfl S [.int .u16 t, .func (.func 40) #[] #[.pointer (some ⟨KB, 0, none⟩)]] zSEAL 87 rfl rfl HK2.out rfl (by kernel_rfl) (by simp [Value.oneCell']) ?_; intro w4 HK4 hk4; have HB4 := Lib.hid (below_keeps HB3.out hk4.out (Nat.le_refl _) (fun i hi => by rw [hi]; exact HS.out.1)); have HKK := Lib.hid (HK3.out.keep hk4.out HS.out.2)))
  refine bodyPost_ret (results_rowT rfl _ S _ _ _ rfl HK4.out HU.out rfl (by kernel_rfl)) rfl ?_
  exact ⟨KB, rfl, by rw [HKB.out]; exact Nat.le_refl _, by rw [HX.out]; exact HKK.out, HB4.out⟩
/-- What a sum's closure answers. -/
def covB (key : List Int) (kind : Int) (f t : List Int) (ps : List Piece) : List Int := macOf key [if pkE kind ps = 0 then pkB kind f t (pieces ps) else []]
theorem macOf_length (k : List Int) (ps : List (List Int)) : (macOf k ps).length = 32 := shaOf_length _
theorem macOf_bytes (k : List Int) (ps : List (List Int)) : Bytes (macOf k ps) := shaOf_bytes _
def BodyAns (key : List Int) (kind : Int) (f t : List Int) (ps : List Piece) (w : World) (e : Ending) (w' : World) : Prop :=
  ∃ A c, e = .returned (.tuple #[.slice A 32 c, .int .i64 (pkE kind ps)]) ∧ 32 ≤ c ∧ Rd w' .u8 A 32 (covB key kind f t ps) ∧ (A = none → c = 0) ∧ Below w.heap.size w w'
theorem parts_at1 {w : World} {A : Option Addr} {n c : Nat} {xs : List Int} (t : TypeId) (hr : Rd w .u8 A n xs) (hc : n ≤ c) : MParts (w.alloc (.cells #[.slice A n c] t)) (some ⟨w.heap.size, 0, none⟩) 1 [xs] :=
  ⟨rfl, by omega, fun _ => ⟨w.heap.size, 0, rfl, by simp, fun j p hj => by
    have h0 : j = 0 := by have := (List.getElem?_eq_some_iff.1 hj).1; simpa using this
    subst h0
    simp only [List.getElem?_cons_zero, Option.some.injEq] at hj
    subst hj
    rw [hr.len]
    exact ⟨A, c, (Blk.new w t [.slice A n c]).cell 0, hc, hr.below (new_below w _)⟩⟩⟩
theorem pktC_one' {kind : Int} {f t : List Int} {A : Option Addr} {n c : Nat} : ∀ u ∈ pktC kind f t (.slice A n c), u.oneCell' = true := pktC_one
set_option maxRecDepth 100000 in
set_option maxHeartbeats 4000000 in
theorem body_any (KB : Nat) (key : List Int) (kind : Int) (f t : List Int) (ps : List Piece) (A : Option Addr) (n c : Nat) (w : World) (hps : Ps w A n ps) (hf : f.length = 16) (ht : t.length = 16) (hfb : isB f) (htb : isB t) (hk : 0 ≤ kind ∧ kind ≤ 255)
    (hK : Blk w KB 41 (key.map (Value.int .u8))) (hkl : key.length = 32) (hkb : Bytes key) :
    Calls Try.prog 40 #[.agg (pktC kind f t (.slice A n c)).toArray, .pointer (some ⟨KB, 0, none⟩)] w (BodyAns key kind f t ps w) := by
  obtain ⟨C, hC⟩ : ∃ C, pktC kind f t (.slice A n c) = C := ⟨_, rfl⟩
  have hput := fun (W : World) (hb : Below w.heap.size w W) => pkput_any kind f t ps A n c W (hps.below hb) hf ht hfb htb hk
  have hcl : C.length = 34 := by rw [← hC]; exact pktC_length hf ht
  rw [hC] at hput ⊢
  have HPUT := Lib.hid hput
  have HSC : Hid ((Try.prog.info? 45).map (·.size) = some C.length) := Lib.hid (by rw [hcl]; exact info_pkt)
  have HU := Lib.hid Try.underlying45
  have HK := Lib.hid hK
  have HKL := Lib.hid hkl
  have HKB := Lib.hid hkb
  obtain ⟨E, hE⟩ : ∃ E, pkE kind ps = E := ⟨_, rfl⟩
  have HE := Lib.hid hE
  clear hput hcl hps hf ht hfb htb hk hK hkl hkb hC hE
  go_enter Try.func40, Try.ntmps40
  go_wp2_with (first
    | ((with_reducible refine wpList_isK (o := ⟨some 2, _, _, _, _, _⟩) ?_); refine wpList_boxT (o := ⟨some 2, .box 45 _, _, _, _, _⟩) rfl 45 _ rfl C rfl ?_; intro w1 HK1 HB1; obtain ⟨G, hG⟩ : ∃ R, w.heap.size = R := ⟨_, rfl⟩; rw [hG] at HK1 ⊢; clear hG)
    | ((with_reducible refine wpList_isK (o := ⟨some 8, _, _, _, _, _⟩) ?_); refine wpList_loadT (o := ⟨some 8, _, _, _, _, _⟩) rfl 45 _ rfl G rfl 45 C _ HK1.out HU.out rfl HSC.out ?_))
  refine (HPUT.out w1 HB1.out).mono ?_
  have key_fin : ∀ (e : Ending) (w' : World), PkPut w1 kind f t ps e w' → ∃ A2 m, e = .returned (.tuple #[.slice A2 m m, .int .i64 E]) ∧ Rd w' .u8 A2 m (if pkE kind ps = 0 then pkB kind f t (pieces ps) else []) ∧ Below w1.heap.size w1 w' := by
    intro e w' h
    rcases h with ⟨h1, h2, h3⟩ | ⟨g, L, h1, h2, h3, h4, h5, h6⟩
    · exact ⟨none, 0, by rw [← HE.out]; exact h2, by rw [if_neg h1]; exact rd_nil _ _, h3⟩
    · exact ⟨some ⟨g, 0, none⟩, L, by rw [← HE.out, h1]; exact h3, by rw [if_pos h1]; exact h5, h6⟩
  intro e w2 h2
  obtain ⟨A2, m, rfl, hr2, hb2⟩ := key_fin e w2 h2
  obtain ⟨B, hBB⟩ : ∃ B, (if pkE kind ps = 0 then pkB kind f t (pieces ps) else []) = B := ⟨_, rfl⟩
  have HBB : Hid (covB key kind f t ps = macOf key [B]) := Lib.hid (by rw [covB, hBB])
  rw [hBB] at hr2
  have HB2 := Lib.hid (HB1.out.trans (hb2.mono HB1.out.size))
  have HK2 := Lib.hid (HK.out.below HB2.out HK.out.lt)
  have hmac := mac_any (some ⟨KB, 0, none⟩) (some ⟨w2.heap.size, 0, none⟩) 32 32 1 1 key [B] (w2.alloc (.cells #[.slice A2 m m] 49)) (rd_of_blk (HK2.out.alloc _) HKB.out HKL.out (by omega)) (Nat.le_refl _) (parts_at1 49 hr2 (Nat.le_refl _))
  have HM := Lib.hid hmac
  have hall := sum_all KB
  clear key_fin h2 hr2 hb2 hBB hmac
  go_wp2_with fail
  refine HM.out.mono ?_
  rintro e1 w3 ⟨rfl, hb3⟩
  have HB3 := Lib.hid ((HB2.out.alloc HB2.out.size (.cells #[.slice A2 m m] 49)).trans (hb3.mono (by simp; exact Nat.le_succ_of_le HB2.out.size)))
  have HP := Lib.hid (putSum_any (macOf key [B]) w3 (macOf_length _ _) (macOf_bytes _ _))
  unfold u8V at HP
  clear hb3 HM
  go_wp2_with fail
  refine HP.out.mono ?_
  rintro e1 w4 ⟨A4, c4, rfl, hc4, ho4, hz4, hb4⟩
  have hr4 : Rd w4 .u8 A4 32 (macOf key [B]) := by
    obtain ⟨A5, c5, e5, -, -, hg5⟩ := own_slice ho4
    injection e5 with e6 e7 e8
    subst e6
    obtain ⟨g, rfl, -, -, -⟩ := hg5 (by omega)
    exact rd_own ho4 (macOf_bytes _ _) (by omega)
  have HF := Lib.hid (show 32 ≤ c4 ∧ Rd w4 .u8 A4 32 (macOf key [B]) ∧ (A4 = none → c4 = 0) ∧ Below w.heap.size w w4 from ⟨hc4, hr4, hz4, HB3.out.trans (hb4.mono HB3.out.size)⟩)
  clear hc4 ho4 hz4 hb4 hr4
  go_wp2_with fail
  go_ret2
  exact ⟨A4, c4, by rw [HE.out]; rfl, HF.out.1, by rw [HBB.out]; exact HF.out.2.1, HF.out.2.2.1, HF.out.2.2.2⟩
set_option maxHeartbeats 1000000 in
theorem onc_any (SB KB : Nat) (t u : Int) (B : Option Addr) (m c : Nat) (w : World) (hs : Blk w SB 87 [.int .u16 t, .func (.func 40) #[] #[.pointer (some ⟨KB, 0, none⟩)]]) :
    Calls Try.prog 45 #[.agg #[.int .u16 u, .slice B m c], .pointer (some ⟨SB, 0, none⟩)] w fun e w' => e = .returned (.bool (decide (t ≤ u))) ∧ Below w.heap.size w w' := by
  have d0 : (w.alloc (.cells #[.int .u16 u, .slice B m c] 69)).cell? ⟨SB, 0, none⟩ = some (.int .u16 t) := (hs.alloc _).cell 0
  have HB := Lib.hid (new_below w (.cells #[.int .u16 u, .slice B m c] 69))
  clear hs
  go_enter Try.func45, Try.ntmps45
  go_wp2_with fail
  go_ret
  exact ⟨rfl, HB.out⟩
set_option maxHeartbeats 1000000 in
theorem hasp_any (SB KB : Nat) (t : Int) (A : Option Addr) (n c : Nat) (ts : List Int) (w : World) (h : TyRow w A n ts) (hs : Blk w SB 87 [.int .u16 t, .func (.func 40) #[] #[.pointer (some ⟨KB, 0, none⟩)]]) :
    Calls Try.prog 44 #[.slice A n c, .func (.func 45) #[] #[.pointer (some ⟨SB, 0, none⟩)]] w fun e w' => e = .returned (.bool (ts.any (fun u => decide (t ≤ u)))) ∧ Below w.heap.size w w' := by
  have hidx := idxp_any 45 (by intro args w; kernel_rfl) (.pointer (some ⟨SB, 0, none⟩)) (fun u => decide (t ≤ u)) A n c ts w h (fun W u B m c hb => onc_any SB KB t u B m c W (hs.below hb hs.lt))
  have HI := Lib.hid hidx
  clear hidx h hs
  go_enter Try.func44, Try.ntmps44
  go_wp2_with fail
  refine HI.out.mono ?_
  rintro e1 w1 ⟨r, rfl, hat, hb⟩
  have HR : Hid (decide (0 ≤ r) = ts.any (fun u => decide (t ≤ u))) := Lib.hid (by
    rcases hat with ⟨rfl, hno⟩ | ⟨k, rfl, hk, hpre, u, hu, hyes⟩
    · have : ts.any (fun u => decide (t ≤ u)) = false := by
        rw [List.any_eq_false]; intro u hu; have := hno u hu; simpa using this
      rw [this]; decide
    · have : ts.any (fun u => decide (t ≤ u)) = true := List.any_eq_true.2 ⟨u, List.mem_of_getElem? hu, hyes⟩
      rw [this]; simp)
  have HB := Lib.hid hb
  clear hat hb HI
  go_wp2_with fail
  go_ret
  exact ⟨by rw [← HR.out]; rfl, HB.out⟩
end Go.Proofs.Ytadpgodmkodgdaa
