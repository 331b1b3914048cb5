/- The walk over the law HostsNone. -/
import Derived.Test.YtjkcagfacegjkaaGreatHNot
import Derived.Test.YtjkcagfacegjkaaGreatOpen
import Derived.Test.YtjkcagfacegjkaaGreatKWant
namespace Go.Proofs.YtjkcagfacegjkaaGreat
open Go.RowKit
set_option linter.unusedSimpArgs false
set_option linter.unusedVariables false

def zHost : List Value := [.int .u64 0, .int .u64 0, .int .u64 0, .int .u64 0, .int .u64 0, .int .u64 0, .int .u64 0, .int .u64 0, .int .u64 0, .int .u64 0, .int .u64 0, .int .u64 0, .int .u64 0, .int .u64 0, .int .u64 0, .int .u64 0, .int .u8 0, .int .u8 0, .int .u8 0, .int .u8 0, .int .u8 0, .int .u8 0, .int .u8 0, .int .u8 0, .int .u8 0, .int .u8 0, .int .u8 0, .int .u8 0, .int .u8 0, .int .u8 0, .int .u8 0, .int .u8 0, .int .u8 0, .int .u8 0, .int .u8 0, .int .u8 0, .int .u8 0, .int .u8 0, .int .u8 0, .int .u8 0, .int .u8 0, .int .u8 0, .int .u8 0, .int .u8 0, .int .u8 0, .int .u8 0, .int .u8 0, .int .u8 0, .pointer none, .int .u8 0, .int .u8 0, .int .u8 0, .int .u8 0, .int .u8 0, .int .u8 0, .int .u8 0, .int .u8 0, .int .u8 0, .int .u8 0, .int .u8 0, .int .u8 0, .int .u8 0, .int .u8 0, .int .u8 0, .int .u8 0, .pointer none, .slice none 0 0, .pointer none, .map none, .slice none 0 0, .slice none 0 0, .int .u32 0, .slice none 0 0]
def actC (k at_ fr to many : Int) (AB : Option Addr) (nB cB : Nat) (AS : Option Addr) (nS cS : Nat) (f t : Int) (AF : Option Addr) (nF cF : Nat) : List Value := [.int .u8 k, .int .u16 at_, .int .u8 fr, .int .u8 to, .int .u8 many, .slice AB nB cB, .slice AS nS cS, .int .u32 f, .int .u32 t, .slice AF nF cF]
/-- What holds all along. -/
structure NoneAt (w0 : World) (G H L : Nat) (acs tcs : List Value) (w : World) : Prop where
  act : Blk w G 30 acs
  tag : Blk w (G + 1) 32 tcs
  list : Blk w L 33 [.pointer none, .pointer (some ⟨H, 0, none⟩)]
  gone : NotThere (.pointer (some ⟨H, 0, none⟩)) w
  below : Below w0.heap.size w0 w
theorem NoneAt.next {w0 w w' : World} {G H L : Nat} {acs tcs : List Value} (h : NoneAt w0 G H L acs tcs w) (hB : Below w.heap.size w w') : NoneAt w0 G H L acs tcs w' :=
  ⟨h.act.below hB h.act.lt, h.tag.below hB h.tag.lt, h.list.below hB h.list.lt, h.gone.below hB, h.below.trans (hB.mono h.below.size)⟩
theorem seen_same (W : World) : Sem.run Tryz.prog (Op.equalIn 10000 66 (.agg zSeen.toArray) (.agg #[.int .u8 0, .int .u8 0, .int .u8 0, .int .u8 0, .int .u8 0, .int .u8 0, .int .u8 0, .int .u8 0, .int .u8 0, .int .u8 0, .int .u8 0, .int .u8 0, .int .u8 0, .int .u8 0, .int .u8 0, .int .u8 0, .int .u8 0, .int .u8 0, .int .u8 0, .int .u8 0, .int .u8 0, .int .u8 0, .int .u8 0, .int .u8 0, .int .u8 0, .int .u8 0, .int .u8 0, .int .u8 0, .int .u8 0, .int .u8 0, .int .u8 0, .int .u8 0, .int .u8 0, .int .u32 0, .int .u32 0, .bool false, .int .u64 0, .int .u64 0])) W = .ok true W := by kernel_rfl
theorem tag_same0 (W : World) : Sem.run Tryz.prog (Op.equalIn 10000 32 (.agg zTag.toArray) (.agg #[.int .u8 0, .int .u8 0, .int .u8 0, .int .u8 0, .int .u8 0, .int .u8 0, .int .u8 0, .int .u8 0, .int .u8 0, .int .u8 0, .int .u8 0, .int .u8 0, .int .u8 0, .int .u8 0, .int .u8 0, .int .u8 0])) W = .ok true W := by kernel_rfl
set_option maxRecDepth 100000 in
set_option maxHeartbeats 16000000 in
theorem none_at (k at_ fr to many : Int) (AB : Option Addr) (nB cB : Nat) (AS : Option Addr) (nS cS : Nat) (f t : Int) (AF : Option Addr) (nF cF : Nat) (tcs : List Value) (w : World) (hl : tcs.length = 16) :
    Calls Tryz.prog 3 #[.agg #[.int .u8 k, .int .u16 at_, .int .u8 fr, .int .u8 to, .int .u8 many, .slice AB nB cB, .slice AS nS cS, .int .u32 f, .int .u32 t, .slice AF nF cF], .agg tcs.toArray] w fun e w' => e = .returned (.bool true) ∧ Below w.heap.size w w' := by
  have hst : NoneAt w w.heap.size (w.heap.size + 1 + 1) (w.heap.size + 1 + 1 + 1) [.int .u8 k, .int .u16 at_, .int .u8 fr, .int .u8 to, .int .u8 many, .slice AB nB cB, .slice AS nS cS, .int .u32 f, .int .u32 t, .slice AF nF cF] tcs ((((w.alloc (.cells #[.int .u8 k, .int .u16 at_, .int .u8 fr, .int .u8 to, .int .u8 many, .slice AB nB cB, .slice AS nS cS, .int .u32 f, .int .u32 t, .slice AF nF cF] 30)).alloc (.cells tcs.toArray 32)).alloc (.cells Tryz.zeroCells51 51)).alloc (.cells #[.pointer none, .pointer (some ⟨w.heap.size + 1 + 1, 0, none⟩)] 33)) := by
    have k1 := Blk.new w 30 [.int .u8 k, .int .u16 at_, .int .u8 fr, .int .u8 to, .int .u8 many, .slice AB nB cB, .slice AS nS cS, .int .u32 f, .int .u32 t, .slice AF nF cF]
    have k2 := Blk.new (w.alloc (.cells #[.int .u8 k, .int .u16 at_, .int .u8 fr, .int .u8 to, .int .u8 many, .slice AB nB cB, .slice AS nS cS, .int .u32 f, .int .u32 t, .slice AF nF cF] 30)) 32 tcs
    have k3 := Blk.new ((w.alloc (.cells #[.int .u8 k, .int .u16 at_, .int .u8 fr, .int .u8 to, .int .u8 many, .slice AB nB cB, .slice AS nS cS, .int .u32 f, .int .u32 t, .slice AF nF cF] 30)).alloc (.cells tcs.toArray 32)) 51 zHost
    have k4 := Blk.new (((w.alloc (.cells #[.int .u8 k, .int .u16 at_, .int .u8 fr, .int .u8 to, .int .u8 many, .slice AB nB cB, .slice AS nS cS, .int .u32 f, .int .u32 t, .slice AF nF cF] 30)).alloc (.cells tcs.toArray 32)).alloc (.cells Tryz.zeroCells51 51)) 33 [.pointer none, .pointer (some ⟨w.heap.size + 1 + 1, 0, none⟩)]
    simp only [World.size_alloc] at k2 k3 k4
    exact ⟨((k1.alloc _).alloc _).alloc _, (k2.alloc _).alloc _, k4, .inr ⟨_, rfl, (k3.alloc _).lt, (k3.alloc _).cell 68⟩, ((((Below.refl _ _).alloc (Nat.le_refl _) _).alloc (by simp) _).alloc (by simp; omega) _).alloc (by simp; omega) _⟩
  have HSZ := Lib.hid (tag_size hl)
  have HU := Lib.hid Tryz.underlying32
  have HUS := Lib.hid Tryz.underlying66
  have HL := Lib.hid hl
  have HSS : Hid ((Tryz.prog.info? 66).map (·.size) = some zSeen.toArray.size) := Lib.hid (by kernel_rfl)
  have HSL : Hid ((Tryz.prog.info? 66).map (·.size) = some zSeen.length) := Lib.hid (by kernel_rfl)
  have H1 : Hid (zSeen.toArray.all (·.oneCell') = true) := Lib.hid (by kernel_rfl)
  have hss := seen_same
  have hts := tag_same0
  clear hl
  go_enter Tryz.func3, Tryz.ntmps3
  go_wp2_with fail
  obtain ⟨G, hG⟩ : ∃ G, w.heap.size = G := ⟨_, rfl⟩
  obtain ⟨H, hH⟩ : ∃ H, G + 1 + 1 = H := ⟨_, rfl⟩
  obtain ⟨L, hL⟩ : ∃ L, H + 1 = L := ⟨_, rfl⟩
  rw [hG, hH, hL] at hst ⊢
  generalize ((((w.alloc (.cells #[.int .u8 k, .int .u16 at_, .int .u8 fr, .int .u8 to, .int .u8 many, .slice AB nB cB, .slice AS nS cS, .int .u32 f, .int .u32 t, .slice AF nF cF] 30)).alloc (.cells tcs.toArray 32)).alloc (.cells Tryz.zeroCells51 51)).alloc (.cells #[.pointer none, .pointer (some ⟨H, 0, none⟩)] 33)) = w1 at *
  have HST := Lib.hid hst
  clear hst hG hH hL
  go_loopw [6] (fun i wr => ∃ m : Nat, m ≤ 2 ∧ i = .int .i64 m ∧ NoneAt w G H L [.int .u8 k, .int .u16 at_, .int .u8 fr, .int .u8 to, .int .u8 many, .slice AB nB cB, .slice AS nS cS, .int .u32 f, .int .u32 t, .slice AF nF cF] tcs wr) (fun i _ => 2 - (intOf i).toNat)
  case atStart => exact ⟨0, by omega, rfl, HST.out⟩
  case round =>
    obtain ⟨m, hm, rfl, hst⟩ := hrel
    by_cases hm2 : m < 2
    · obtain ⟨p, hp, hnp⟩ : ∃ p, [Value.pointer none, .pointer (some ⟨H, 0, none⟩)][m]? = some p ∧ ∀ W, NoneAt w G H L [.int .u8 k, .int .u16 at_, .int .u8 fr, .int .u8 to, .int .u8 many, .slice AB nB cB, .slice AS nS cS, .int .u32 f, .int .u32 t, .slice AF nF cF] tcs W → NotThere p W := by
        rcases m with _ | _ | m
        · exact ⟨_, rfl, fun W _ => .inl rfl⟩
        · exact ⟨_, rfl, fun W h => h.gone⟩
        · omega
      have c0 := (hst.list.cell m).trans hp
      have HNP := Lib.hid hnp
      have HS0 := Lib.hid hst
      have HM0 := Lib.hid hst.tag.range
      have i0 : (0 : Int) ≤ (m : Int) := by omega
      have i1 : (m : Int) < 2 := by omega
      clear hp hnp hst HST
      go_wp2_with (refine wpList_load_mid rfl 32 _ rfl (G + 1) 0 rfl tcs _ HM0.out HU.out rfl HSZ.out ?_)
      refine (open_not tcs (HNP.out _ HS0.out)).mono ?_
      rintro e v1 ⟨rfl, hB⟩
      have hs := HS0.out.next hB
      have HS1 := Lib.hid hs
      have HM1 := Lib.hid hs.tag.range
      have a5 : v1.cell? ⟨G, 5, none⟩ = some (.slice AB nB cB) := hs.act.cell 5
      clear hs hB
      go_wp2_with (refine wpList_load_mid rfl 32 _ rfl (G + 1) 0 rfl tcs _ HM1.out HU.out rfl HSZ.out ?_)
      refine (say_not tcs AB nB cB HL.out (HNP.out _ HS1.out)).mono ?_
      rintro e v2 ⟨rfl, hB⟩
      have hs := HS1.out.next hB
      have HS2 := Lib.hid hs
      have HM2 := Lib.hid hs.tag.range
      clear hs hB
      clear a5
      go_wp2_with (refine wpList_load_mid rfl 32 _ rfl (G + 1) 0 rfl tcs _ HM2.out HU.out rfl HSZ.out ?_)
      refine (close_not tcs HL.out (HNP.out _ HS2.out)).mono ?_
      rintro e v3 ⟨rfl, hB⟩
      have hs := HS2.out.next hB
      have HS3 := Lib.hid hs
      have HM3 := Lib.hid hs.tag.range
      clear hs hB
      go_wp2_with (refine wpList_load_mid rfl 32 _ rfl (G + 1) 0 rfl tcs _ HM3.out HU.out rfl HSZ.out ?_)
      refine (rekey_not tcs HL.out (HNP.out _ HS3.out)).mono ?_
      rintro e v4 ⟨rfl, hB⟩
      have hs := HS3.out.next hB
      have HS4 := Lib.hid hs
      have HM4 := Lib.hid hs.tag.range
      have a6 : v4.cell? ⟨G, 6, none⟩ = some (.slice AS nS cS) := hs.act.cell 6
      clear hs hB
      go_wp2_with (refine wpList_load_mid rfl 32 _ rfl (G + 1) 0 rfl tcs _ HM4.out HU.out rfl HSZ.out ?_)
      refine (move_not AS nS cS (HNP.out _ HS4.out)).mono ?_
      rintro e v5 ⟨rfl, hB⟩
      have hs := HS4.out.next hB
      have HS5 := Lib.hid hs
      have HM5 := Lib.hid hs.tag.range
      clear hs hB
      clear a6
      go_wp2_with (refine wpList_load_mid rfl 32 _ rfl (G + 1) 0 rfl tcs _ HM5.out HU.out rfl HSZ.out ?_)
      refine (reg_not tcs HL.out (HNP.out _ HS5.out)).mono ?_
      rintro e v6 ⟨rfl, hB⟩
      have hs := HS5.out.next hB
      have HS6 := Lib.hid hs
      have HM6 := Lib.hid hs.tag.range
      have a7 : v6.cell? ⟨G, 7, none⟩ = some (.int .u32 f) := hs.act.cell 7
      have a8 : v6.cell? ⟨G, 8, none⟩ = some (.int .u32 t) := hs.act.cell 8
      have a9 : v6.cell? ⟨G, 9, none⟩ = some (.slice AF nF cF) := hs.act.cell 9
      clear hs hB
      go_wp2_with (refine wpList_load_mid rfl 32 _ rfl (G + 1) 0 rfl tcs _ HM6.out HU.out rfl HSZ.out ?_)
      refine (came_not f t AF nF cF (HNP.out _ HS6.out)).mono ?_
      rintro e v7 ⟨rfl, hB⟩
      have hs := HS6.out.next hB
      have HS7 := Lib.hid hs
      have HM7 := Lib.hid hs.tag.range
      clear hs hB
      clear a7 a8 a9
      go_wp2_with (refine wpList_load_mid rfl 32 _ rfl (G + 1) 0 rfl tcs _ HM7.out HU.out rfl HSZ.out ?_)
      refine (tick_not (HNP.out _ HS7.out)).mono ?_
      rintro e v8 ⟨rfl, hB⟩
      have hs := HS7.out.next hB
      have HS8 := Lib.hid hs
      have HM8 := Lib.hid hs.tag.range
      clear hs hB
      go_wp2_with (refine wpList_load_mid rfl 32 _ rfl (G + 1) 0 rfl tcs _ HM8.out HU.out rfl HSZ.out ?_)
      refine (seen_not tcs (HNP.out _ HS8.out)).mono ?_
      rintro e v9 ⟨rfl, hB⟩
      have hs := HS8.out.next hB
      have HS9 := Lib.hid hs
      have HM9 := Lib.hid hs.tag.range
      clear hs hB
      obtain ⟨v10, hv10⟩ : ∃ v10, v10 = v9.alloc (.cells zSeen.toArray 66) := ⟨_, rfl⟩
      obtain ⟨v11, hv11⟩ : ∃ v11, v10.setCells v9.heap.size 0 zSeen = v11 := ⟨_, rfl⟩
      have hk10 : Blk v10 v9.heap.size 66 zSeen := by rw [hv10]; exact Blk.new _ _ _
      have hk11 : Blk v11 v9.heap.size 66 zSeen := by rw [← hv11]; exact hk10.whole zSeen rfl
      have hb10 : Below v9.heap.size v9 v11 := by rw [← hv11, hv10]; exact below_keeps ((Below.refl _ v9).alloc (Nat.le_refl _) _) (Keeps.setCells zSeen 0 _) (Nat.le_refl _) (fun i hi => by rw [hi]; exact Nat.le_refl _)
      have HA10 : Hid (∀ (o : Oper), o.op = .alloc 66 → ∀ ev, (execOp ev o).run Tryz.prog v9 = .ok (.value (.pointer (some ⟨v9.heap.size, 0, none⟩))) v10) := Lib.hid (fun o ho ev => by rw [hv10]; exact exec_alloc_seen v9 o ho ev)
      have HTH10 : Hid (v10.there v9.heap.size 0 zSeen.toArray.size) := Lib.hid (hk10.there 0 _ (by simp))
      have HV11 := Lib.hid hv11
      have HS11 := Lib.hid (HS9.out.next hb10)
      have HK11 := Lib.hid hk11.range
      generalize v9.heap.size = gS at *
      clear hk10 hk11 hb10 hv10 hv11
      go_wp2_with (first
        | (refine wpList_load_want (by rfl) 66 _ rfl gS 0 rfl zSeen _ HK11.out HUS.out rfl HSL.out ?_)
        | (refine wpList_store_mid rfl 66 _ _ rfl gS 0 zSeen.toArray rfl rfl HTH10.out HSS.out H1.out ?_; rw [show zSeen.toArray.toList = zSeen from rfl, HV11.out])
        | (refine wpList_value (o := ⟨some 25, .alloc 66, _, _, _, _⟩) (v := .pointer (some ⟨gS, 0, none⟩)) (w' := v10) rfl (HA10.out _ rfl _) ?_))
      refine (tag_not (HNP.out _ HS11.out)).mono ?_
      rintro e v12 ⟨rfl, hB⟩
      have HS12 := Lib.hid (HS11.out.next hB)
      clear hB
      go_wp2_with fail
      refine (peers_not (HNP.out _ HS12.out)).mono ?_
      rintro e v13 ⟨rfl, hB⟩
      have HS13 := Lib.hid (HS12.out.next hB)
      clear hB
      go_wp2_with fail
      refine (sessions_not (HNP.out _ HS13.out)).mono ?_
      rintro e v14 ⟨rfl, hB⟩
      have HS14 := Lib.hid (HS13.out.next hB)
      clear hB
      go_wp2_with fail
      refine (guided_not (HNP.out _ HS14.out)).mono ?_
      rintro e v15 ⟨rfl, hB⟩
      have HS15 := Lib.hid (HS14.out.next hB)
      clear hB
      go_wp2_with fail
      refine (gens_not (HNP.out _ HS15.out)).mono ?_
      rintro e v16 ⟨rfl, hB⟩
      have HS16 := Lib.hid (HS15.out.next hB)
      clear hB
      go_wp2_with fail
      go_roundw
      case rel => exact ⟨m + 1, by omega, by go_num, HS16.out⟩
      case measure => simp [intOf]; omega
    · obtain rfl : m = 2 := by omega
      have HS0 := Lib.hid hst
      clear hst
      go_wp2_with fail
      go_ret
      exact ⟨rfl, HS0.out.below⟩
end Go.Proofs.YtjkcagfacegjkaaGreat
