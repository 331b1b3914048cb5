/- The walks over what packets.Get asks of the bytes. -/
import Derived.Test.YtjikjdignhdipaaGreatDoorYRPacketsGet4
import Derived.Test.YtjikjdignhdipaaGreatDoorYRPacketsGet13
import Derived.Test.YtjikjdignhdipaaGreatDoorYRPacketsGet10
namespace Go.Proofs.YtjikjdignhdipaaGreatDoor
open Go.RowKit
set_option linter.unusedSimpArgs false
set_option linter.unusedVariables false

def ask1 (b : List Int) : Bool := decide (b[0]?.getD 0 = 1) && decide ((1 : Int) ≤ b[1]?.getD 0 ∧ b[1]?.getD 0 ≤ 8)
def ask2 (b : List Int) : Bool := decide (told ((b.drop 2).take 2) = b.length)
def ask3 (b : List Int) : Bool := decide (b[6]?.getD 0 = 0) && decide (b[7]?.getD 0 = 0)
def ask4 (b : List Int) : Bool := decide (told ((b.drop 4).take 2) = chk (withChk b 0))
theorem okB_asks (b : List Int) : okB b = (ask1 b && (ask2 b && (ask3 b && ask4 b))) := by
  unfold okB ask1 ask2 ask3 ask4
  simp [Bool.decide_and]

set_option maxHeartbeats 1000000 in
theorem ask1_any (X : Nat) (A : Option Addr) (n c : Nat) (bs : List Int) (w : World) (r0 : Rd w .u8 A n bs) (l0 : n ≤ c) (hz : A = none → c = 0) (h40 : 40 ≤ n) (hX : w.cell? ⟨X, 0, none⟩ = some (.slice A n c)) (hXl : X < w.heap.size) : Calls Tryz.prog 80 #[.pointer (some ⟨X, 0, none⟩)] w fun e w' => e = .returned (.bool (ask1 bs)) ∧ w = w' := by
  obtain ⟨b, off, rfl, hb, hc⟩ := r0.row (by omega)
  have c0 : w.cell? ⟨b, off, none⟩ = some (.int .u8 (bs[0]?.getD 0)) := hc 0 (by omega)
  have c1 := hc 1 (by omega)
  have hby := isB_rd r0
  have hy : (0 : Int) ≤ bs[1]?.getD 0 := by rw [List.getElem?_eq_getElem (by rw [r0.len]; omega)]; exact (hby _ (List.getElem_mem _)).1
  have HD : Hid (ask1 bs = (decide (bs[0]?.getD 0 = 1) && decide ((1 : Int) ≤ bs[1]?.getD 0 ∧ bs[1]?.getD 0 ≤ 8))) := Lib.hid rfl
  generalize bs[0]?.getD 0 = x at *
  generalize bs[1]?.getD 0 = y at *
  have hmay := pkmay_any y w hy
  have q0 : 0 < n := by omega
  have q1 : 1 < n := by omega
  clear hc hby
  by_cases hx : x = 1
  · subst hx
    go_enter Tryz.func80, Tryz.ntmps80
    go_wp2_with fail
    refine hmay.mono ?_; rintro e w1 ⟨rfl, rfl⟩
    go_wp2_with fail
    go_ret
    exact ⟨ret_bool (by rw [HD.out]; simp), rfl⟩
  · go_enter Tryz.func80, Tryz.ntmps80
    go_wp2_with fail
    go_ret
    exact ⟨ret_bool (by rw [HD.out]; simp [hx]), rfl⟩
set_option maxHeartbeats 1000000 in
theorem ask3_any (X : Nat) (A : Option Addr) (n c : Nat) (bs : List Int) (w : World) (r0 : Rd w .u8 A n bs) (l0 : n ≤ c) (hz : A = none → c = 0) (h40 : 40 ≤ n) (hX : w.cell? ⟨X, 0, none⟩ = some (.slice A n c)) (hXl : X < w.heap.size) : Calls Tryz.prog 83 #[.pointer (some ⟨X, 0, none⟩)] w fun e w' => e = .returned (.bool (ask3 bs)) ∧ w = w' := by
  obtain ⟨b, off, rfl, hb, hc⟩ := r0.row (by omega)
  have c0 := hc 6 (by omega)
  have c1 := hc 7 (by omega)
  have HD : Hid (ask3 bs = (decide (bs[6]?.getD 0 = 0) && decide (bs[7]?.getD 0 = 0))) := Lib.hid rfl
  generalize bs[6]?.getD 0 = x at *
  generalize bs[7]?.getD 0 = y at *
  have q0 : 6 < n := by omega
  have q1 : 7 < n := by omega
  clear hc
  by_cases hx : x = 0
  · subst hx
    by_cases hy : y = 0
    · subst hy
      go_enter Tryz.func83, Tryz.ntmps83
      go_wp2_with fail
      go_ret
      exact ⟨ret_bool (by rw [HD.out]; simp), rfl⟩
    · go_enter Tryz.func83, Tryz.ntmps83
      go_wp2_with fail
      go_ret
      exact ⟨ret_bool (by rw [HD.out]; simp [hy]), rfl⟩
  · go_enter Tryz.func83, Tryz.ntmps83
    go_wp2_with fail
    go_ret
    exact ⟨ret_bool (by rw [HD.out]; simp [hx]), rfl⟩
set_option maxHeartbeats 1000000 in
theorem ask2_any (X : Nat) (A : Option Addr) (n c : Nat) (bs : List Int) (w : World) (r0 : Rd w .u8 A n bs) (l0 : n ≤ c) (hz : A = none → c = 0) (h40 : 40 ≤ n) (hX : w.cell? ⟨X, 0, none⟩ = some (.slice A n c)) (hXl : X < w.heap.size) : Calls Tryz.prog 81 #[.pointer (some ⟨X, 0, none⟩)] w fun e w' => e = .returned (.bool (ask2 bs)) ∧ Below w.heap.size w w' := by
  obtain ⟨A2, hs2', hr2, hz2⟩ := slice_from A n c 2 (by omega) l0 hz
  have hs2 : ∀ W : World, (Instr.slice 31 (.slice A n c) (some (.int .i64 2)) none none).run Tryz.prog W = .ok (.slice A2 (n - 2) (c - 2)) W := hs2'
  have e3 : getE (n - 2) 2 = 0 := by unfold getE; rw [if_neg (by omega), if_neg (by omega)]
  have e4 : getN (bs.drop 2) (n - 2) 2 = told ((bs.drop 2).take 2) := by unfold getN; rw [e3]; rfl
  have hg := get_any A2 (n - 2) (c - 2) (bs.drop 2) 2 w (hr2 w bs r0) (by omega)
  rw [e3, e4] at hg
  have hbyte := rd_bytes r0
  have hm := told_bounds ((bs.drop 2).take 2) (fun x hx => hbyte x (List.mem_of_mem_drop (List.mem_of_mem_take hx)))
  have p3 : pow256 ((bs.drop 2).take 2).length = 65536 := by rw [List.length_take, List.length_drop, r0.len, Nat.min_eq_left (by omega)]; rfl
  rw [p3] at hm
  have HD : Hid (ask2 bs = decide (told ((bs.drop 2).take 2) = (n : Int))) := Lib.hid (by rw [ask2, r0.len])
  generalize told ((bs.drop 2).take 2) = t at *
  have hw : IntKind.i64.wrap t = t := IntWalk.i64_in _ (by omega)
  have hbig := r0.big
  have HX := Lib.hid hX
  have HG := Lib.hid hg
  clear e3 e4 hg hs2' hr2 hz2 hbyte p3
  go_enter Tryz.func81, Tryz.ntmps81
  go_wp2_with fail
  refine HG.out.mono ?_; rintro e w1 ⟨rfl, hB1⟩
  have hX1 := (hB1.cell (p := ⟨X, 0, none⟩) hXl).trans HX.out
  clear hX
  go_wp2_with fail
  go_ret
  exact ⟨ret_bool (by rw [HD.out]; first | rfl | (rw [Bool.eq_iff_iff]; simp)), hB1⟩
set_option maxHeartbeats 1000000 in
theorem ask4_any (X : Nat) (A : Option Addr) (n c : Nat) (bs : List Int) (w : World) (r0 : Rd w .u8 A n bs) (l0 : n ≤ c) (hz : A = none → c = 0) (h40 : 40 ≤ n) (hX : w.cell? ⟨X, 0, none⟩ = some (.slice A n c)) (hXl : X < w.heap.size) : Calls Tryz.prog 84 #[.pointer (some ⟨X, 0, none⟩)] w fun e w' => e = .returned (.bool (ask4 bs)) ∧ Below w.heap.size w w' := by
  obtain ⟨A2, hs2', hr2, hz2⟩ := slice_from A n c 4 (by omega) l0 hz
  have hs2 : ∀ W : World, (Instr.slice 31 (.slice A n c) (some (.int .i64 4)) none none).run Tryz.prog W = .ok (.slice A2 (n - 4) (c - 4)) W := hs2'
  have e3 : getE (n - 4) 2 = 0 := by unfold getE; rw [if_neg (by omega), if_neg (by omega)]
  have e4 : getN (bs.drop 4) (n - 4) 2 = told ((bs.drop 4).take 2) := by unfold getN; rw [e3]; rfl
  have hg : ∀ W, Below w.heap.size w W → Calls Tryz.prog 82 #[.slice A2 (n - 4) (c - 4), .int .i64 2] W fun e w'' => e = .returned (.tuple #[.int .u64 (told ((bs.drop 4).take 2)), .int .i64 0]) ∧ Below W.heap.size W w'' := fun W hW => by
    have := get_any A2 (n - 4) (c - 4) (bs.drop 4) 2 W (hr2 W bs (r0.below hW)) (by omega)
    rwa [e3, e4] at this
  have hbyte := isB_rd r0
  have hm := told_bounds ((bs.drop 4).take 2) (fun x hx => hbyte x (List.mem_of_mem_drop (List.mem_of_mem_take hx)))
  have p3 : pow256 ((bs.drop 4).take 2).length = 65536 := by rw [List.length_take, List.length_drop, r0.len, Nat.min_eq_left (by omega)]; rfl
  rw [p3] at hm
  have HD : Hid (ask4 bs = decide (told ((bs.drop 4).take 2) = chk (withChk bs 0))) := Lib.hid rfl
  have hcl := clone_any A n c bs w r0 l0 hz
  generalize told ((bs.drop 4).take 2) = t at *
  have hw : IntKind.u16.wrap t = t := IntWalk.u16_in _ (by omega)
  have hbig := r0.big
  have hl := r0.len
  have HX := Lib.hid hX
  have HG := Lib.hid hg
  have HBY := Lib.hid hbyte
  clear e3 e4 hg hs2' hr2 hz2 hbyte p3
  go_enter Tryz.func84, Tryz.ntmps84
  go_wp2_with fail
  refine hcl.mono ?_; rintro e w1 ⟨A1, c1, rfl, hc1, ho1, -, hB1⟩
  rcases ho1.2 with ⟨e, _⟩ | ⟨g, cap, cur, e, hgb, hh, hnc, hmx, hs, ht⟩
  · injection e with _ e _; omega
  · injection e with e1 _ e2
    subst e1 e2
    have hk1 : Blk w1 g 5 cur.toList := hh
    have hX1 := (hB1.cell (p := ⟨X, 0, none⟩) hXl).trans HX.out
    have hcl' : cur.toList.length = c1 := by rw [Array.length_toList, hs, Nat.mul_one]
    have hne : ¬ (g = X) := by omega
    have hne2 : ¬ (X = g) := by omega
    obtain ⟨x4, c4⟩ : ∃ x, w1.cell? ⟨g, 4, none⟩ = some x := ⟨_, (hk1.cell 4).trans (List.getElem?_eq_getElem (by omega))⟩
    obtain ⟨x5, c5⟩ : ∃ x, w1.cell? ⟨g, 5, none⟩ = some x := ⟨_, (hk1.cell 5).trans (List.getElem?_eq_getElem (by omega))⟩
    have f4 := hk1.free 4
    have f5 := hk1.free 5
    have HK : Hid (Blk ((w1.setCell ⟨g, 4, none⟩ (.int .u8 0)).setCell ⟨g, 5, none⟩ (.int .u8 0)) g 5 ((cur.toList.set 4 (.int .u8 0)).set 5 (.int .u8 0))) := Lib.hid ((hk1.put 4 _).put 5 _)
    have HB2 : Hid (Below w.heap.size w ((w1.setCell ⟨g, 4, none⟩ (.int .u8 0)).setCell ⟨g, 5, none⟩ (.int .u8 0))) := Lib.hid (by
      have h1 := below_keeps hB1 (Keeps.set1 w1 ⟨g, 4, none⟩ (.int .u8 0)) (Nat.le_refl _) (fun i hi => by subst hi; exact hgb)
      exact below_keeps h1 (Keeps.set1 _ ⟨g, 5, none⟩ (.int .u8 0)) (Nat.le_refl _) (fun i hi => by subst hi; exact hgb))
    have HT : Hid (((cur.toList.set 4 (.int .u8 0)).set 5 (.int .u8 0)).take n = (withChk bs 0).map (Value.int .u8)) := Lib.hid (by
      rw [Nat.mul_one] at ht
      rw [List.take_set, List.take_set, ht]
      simp [withChk, List.map_set])
    have q4 : 4 < n := by omega
    have q5 : 5 < n := by omega
    clear hX hk1 hh hs ht hgb ho1 hcl hcl'
    go_wp2_with fail
    refine (HG.out _ HB2.out).mono ?_; rintro e w3 ⟨rfl, hB3⟩
    have HB4 := Lib.hid (HB2.out.trans (hB3.mono HB2.out.size))
    have hk3 := HK.out.below hB3 HK.out.lt
    have hwb := isB_withChk HBY.out (c := 0) (by omega) (by omega)
    have hwl : (withChk bs 0).length = n := by simp [withChk, hl]
    have hch := check_any (some ⟨g, 0, none⟩) n c1 (withChk bs 0) w3 (rd_of_in hk3 HT.out hwb hwl (by omega)) hc1
    have hcr := chk_range hwb
    generalize chk (withChk bs 0) = q at *
    clear hB3 hk3 hwb HK HB2 HT hX1 c4 c5 f4 f5
    go_wp2_with fail
    refine hch.mono ?_; rintro e w5 ⟨rfl, rfl⟩
    go_wp2_with fail
    go_ret
    exact ⟨ret_bool (by rw [HD.out]; first | rfl | (rw [Bool.eq_iff_iff]; simp)), HB4.out⟩
end Go.Proofs.YtjikjdignhdipaaGreatDoor
