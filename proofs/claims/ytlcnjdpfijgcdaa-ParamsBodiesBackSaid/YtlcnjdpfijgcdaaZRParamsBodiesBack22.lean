/- The bodies of spots and of a number, at the chapter's own piece: two spots in order are put and got; two that are alike are refused; The walk over params.PutSpots, of any spots. -/
import Derived.Test.YtlcnjdpfijgcdaaZRParamsBodiesBack13
import Derived.Test.YtlcnjdpfijgcdaaZRParamsBodiesBack21
import Derived.Test.YtlcnjdpfijgcdaaZRParamsBodiesBack5
import Derived.Test.YtlcnjdpfijgcdaaZRParamsBodiesBack14
namespace Go.Proofs.Ytlcnjdpfijgcdaa
open Go.RowKit
set_option linter.unusedSimpArgs false
set_option linter.unusedVariables false

theorem val_any (A : Option Addr) (len cap : Nat) (w : World) : Calls Try.prog 49 #[.slice A len cap] w fun e w' => e = .returned (.func (.func 71) #[] #[.pointer (some ⟨w.heap.size, 0, none⟩)]) ∧ w' = w.alloc (.cells #[.slice A len cap] 23) :=
  (callsIn_wide (n := 3)).1 (val_in Fence.wide 3 trivial rfl A len cap w)

theorem four_any (A : Option Addr) (n c : Nat) (bs : List Int) (v : Int) (w : World) (r : Rd w .u8 A n bs) (l : n ≤ c) (h4 : 4 ≤ n) (hv : told (bs.take 4) = v) (h0 : 0 ≤ v) (h1 : v ≤ 4294967295) :
    Calls Try.prog 31 #[.slice A n c] w fun e w' => e = .returned (.int .u32 v) ∧ Below w.heap.size w w' := by
  have hg := get_any A n c bs 4 w r l
  have e1 : getE n 4 = 0 := by unfold getE; rw [if_neg (by omega), if_neg (by omega)]
  have e2 : getN bs n 4 = v := by unfold getN; rw [if_pos e1]; exact hv
  rw [e1, e2] at hg
  have hw : IntKind.u32.wrap v = v := IntWalk.u32_in _ (by omega)
  clear e1 e2 hv
  go_enter Try.func31, Try.ntmps31
  go_wp2_with fail
  refine hg.mono ?_; rintro e w1 ⟨rfl, hB⟩
  go_wp2_with fail
  go_ret
  exact ⟨rfl, hB⟩

theorem exact_any (A : Option Addr) (c : Nat) (bs : List Int) (v : Int) (w : World) (r : Rd w .u8 A 4 bs) (l : 4 ≤ c) (hv : told (bs.take 4) = v) (h0 : 0 ≤ v) (h1 : v ≤ 4294967295) :
    Calls Try.prog 32 #[.slice A 4 c, .int .i64 4, .func (.func 31) #[] #[], .slice none 0 0] w fun e w' => e = .returned (.tuple #[.int .u32 v, .int .i64 0]) ∧ Below w.heap.size w w' := by
  have hf := four_any A 4 c bs v w r l (Nat.le_refl _) hv h0 h1
  clear hv
  go_enter Try.func32, Try.ntmps32
  go_wp2_with fail
  refine wp_loop_rounds 1 ?_
  rw [rounds_succ]
  go_wp2_with fail
  refine hf.mono ?_; rintro e w1 ⟨rfl, hB⟩
  go_wp2_with fail
  go_ret2
  exact ⟨rfl, hB⟩

theorem count_any (A : Option Addr) (c : Nat) (bs : List Int) (v : Int) (w : World) (r : Rd w .u8 A 4 bs) (l : 4 ≤ c) (hv : told (bs.take 4) = v) (h0 : 0 ≤ v) (h1 : v ≤ 4294967295) :
    Calls Try.prog 7 #[.slice A 4 c] w fun e w' => e = .returned (.tuple #[.int .u32 v, .int .i64 0]) ∧ Below w.heap.size w w' := by
  have hf := exact_any A c bs v w r l hv h0 h1
  clear hv
  go_enter Try.func7, Try.ntmps7
  go_wp2_with fail
  refine hf.mono ?_; rintro e w1 ⟨rfl, hB⟩
  go_wp2_with fail
  go_ret2
  exact ⟨rfl, hB⟩

theorem clipS_all (A0 : Option Addr) (n0 c0 : Nat) (w : World) (l0 : n0 ≤ c0) :
    Calls Try.prog 53 #[.slice A0 n0 c0] w fun e w' => e = .returned (.slice A0 n0 n0) ∧ w = w' := by
  have hs : ∀ W : World, (Instr.slice 23 (.slice A0 n0 c0) none (some (.int .i64 (n0 : Int))) (some (.int .i64 (n0 : Int)))).run Try.prog W = .ok (.slice A0 n0 n0) W := fun W => by
    rw [run_slice_hm W 23 A0 n0 c0 (by kernel_rfl) .i64 .i64 (n0 : Int) (n0 : Int) (by omega) (by omega) (by omega), show (sizeOf (Try.prog.elem 23)).run Try.prog W = .ok 1 W from by kernel_rfl]
    simp only [Result.andThen, sliced]
    have h0 : ∀ ad : Addr, ad.add 0 = ad := fun ad => by cases ad; unfold Addr.add; split <;> simp_all
    cases A0 with
    | none => simp
    | some ad => simp [h0]
  go_enter Try.func53, Try.ntmps53
  go_wp2_with fail
  go_ret
  exact ⟨rfl, rfl⟩

/-- Two spots somewhere. -/
def TwoIn (w : World) (b off : Nat) (x y : Int) : Prop := b < w.heap.size ∧ w.cell? ⟨b, off, none⟩ = some (.int .u32 x) ∧ w.cell? ⟨b, off + 1, none⟩ = some (.int .u32 y)
theorem TwoIn.below {w w' : World} {b off : Nat} {x y : Int} (h : TwoIn w b off x y) (hB : Below w.heap.size w w') : TwoIn w' b off x y :=
  ⟨Nat.lt_of_lt_of_le h.1 hB.size, (hB.cell (p := ⟨b, off, none⟩) h.1).trans h.2.1, (hB.cell (p := ⟨b, off + 1, none⟩) h.1).trans h.2.2⟩

set_option maxRecDepth 100000 in
set_option maxHeartbeats 2000000 in
theorem putspots_79 (b off cap : Nat) (w : World) (h : TwoIn w b off 7 9) :
    Calls Try.prog 19 #[.slice (some ⟨b, off, none⟩) 2 cap] w fun e w' => ∃ g, e = .returned (.tuple #[.slice (some ⟨g, 0, none⟩) 9 9, .int .i64 0]) ∧ Rd w' .u8 (some ⟨g, 0, none⟩) 9 [2, 0, 0, 0, 7, 0, 0, 0, 9] ∧ Below w.heap.size w w' := by
  have hn := new_below w (.cells #[.slice (some ⟨b, off, none⟩) 2 cap] 23)
  have h1 := h.below hn
  have hsort := sorted_two w.heap.size (w.heap.size + 1) b off cap 7 9 (w.alloc (.cells #[.slice (some ⟨b, off, none⟩) 2 cap] 23)) (by simp) (by simp) (by have := h.1; omega) (by simp) h1.2.1 h1.2.2 (by omega)
  have HS := Lib.hid hsort
  have HN := Lib.hid hn
  have H0 := Lib.hid h
  clear hsort hn h h1
  go_enter Try.func19, Try.ntmps19
  go_wp2_with (first | (go_at_call 49; refine (val_any _ _ _ _).mono ?_; rintro e w' ⟨rfl, rfl⟩))
  refine HS.out.mono ?_; rintro e w2 ⟨g, cap2, rfl, h2, ⟨t0, t1, t2, t3, t4⟩, hB2⟩
  have HB2 : Hid (Below w.heap.size w w2) := Lib.hid (HN.out.trans (hB2.mono (Nat.le_succ _)))
  have T0 := Lib.hid t0
  have T3 := Lib.hid t3
  clear hB2 t0 t3 t4 HN
  go_wp2_with fail
  refine (compact_less g cap2 7 9 _ t2 T3.out (by omega)).mono ?_; rintro e w3 ⟨rfl, hB3⟩
  have HB3 : Hid (Below w.heap.size w w3) := Lib.hid (HB2.out.trans (hB3.mono HB2.out.size))
  have HB4 : Hid (Below w.heap.size w (w3.alloc (.cells #[.int .u8 2] 5))) := Lib.hid (HB3.out.alloc HB3.out.size _)
  obtain ⟨hb4, hx4, hy4⟩ := H0.out.below HB4.out
  have HR4 : Hid (Rd (w3.alloc (.cells #[.int .u8 2] 5)) .u8 (some ⟨w3.heap.size, 0, none⟩) 1 [2]) := Lib.hid (rd_lit w3 [2] 1 (by intro x hx; simp at hx; omega) rfl (by omega))
  clear hB3 t1 t2 h2
  have e4 : putMany 4 = 4 := by decide
  have b7 : [2] ++ be 7 4 = [2, 0, 0, 0, 7] := by decide
  have b9 : [2, 0, 0, 0, 7] ++ be 9 4 = [2, 0, 0, 0, 7, 0, 0, 0, 9] := by decide
  have hput1 := put_any (some ⟨w3.heap.size, 0, none⟩) 1 1 [2] 7 4 _ HR4.out (Nat.le_refl _) (by omega) (by omega)
  rw [e4, b7] at hput1
  have HP1 := Lib.hid hput1
  have E4 := Lib.hid e4
  have B9 := Lib.hid b9
  clear hput1 b7 e4 b9
  go_wp2_with fail
  refine wp_loop_rounds 3 ?_
  rw [rounds_succ]
  go_wp2_with fail
  refine HP1.out.mono ?_; rintro e w5 ⟨g5, hg5, rfl, hk5, hB5⟩
  have HB5 : Hid (Below w.heap.size w w5) := Lib.hid (HB4.out.trans (hB5.mono HB4.out.size))
  obtain ⟨hb5, hx5, hy5⟩ := H0.out.below HB5.out
  have hr5 : Rd w5 .u8 (some ⟨g5, 0, none⟩) 5 [2, 0, 0, 0, 7] := rd_of_blk hk5 (by intro x hx; simp at hx; omega) rfl (by omega)
  have hput2 := put_any (some ⟨g5, 0, none⟩) 5 5 [2, 0, 0, 0, 7] 9 4 _ hr5 (Nat.le_refl _) (by omega) (by omega)
  rw [E4.out, B9.out] at hput2
  have HP2 := Lib.hid hput2
  clear hput2 hr5 hk5 hB5 hg5 hx4 hy4 hb4
  go_wp2_with fail
  rw [rounds_succ]
  go_wp2_with fail
  refine HP2.out.mono ?_; rintro e w6 ⟨g6, hg6, rfl, hk6, hB6⟩
  have HB6 : Hid (Below w.heap.size w w6) := Lib.hid (HB5.out.trans (hB6.mono HB5.out.size))
  have HR6 : Hid (Rd w6 .u8 (some ⟨g6, 0, none⟩) 9 [2, 0, 0, 0, 7, 0, 0, 0, 9]) := Lib.hid (rd_of_blk hk6 (by intro x hx; simp at hx; omega) rfl (by omega))
  clear hk6 hB6 hg6 hx5 hy5 hb5
  go_wp2_with fail
  rw [rounds_succ]
  go_wp2_with fail
  refine (clip_all (some ⟨g6, 0, none⟩) 9 9 w6 (Nat.le_refl _)).mono ?_; rintro e w7 ⟨rfl, rfl⟩
  go_wp2_with fail
  go_ret2
  exact ⟨g6, rfl, HR6.out, HB6.out⟩

set_option maxRecDepth 100000 in
set_option maxHeartbeats 2000000 in
theorem putspots_77 (b off cap : Nat) (w : World) (h : TwoIn w b off 7 7) :
    Calls Try.prog 19 #[.slice (some ⟨b, off, none⟩) 2 cap] w fun e w' => e = .returned (.tuple #[.slice none 0 0, .int .i64 1]) ∧ Below w.heap.size w w' := by
  have hn := new_below w (.cells #[.slice (some ⟨b, off, none⟩) 2 cap] 23)
  have h1 := h.below hn
  have hsort := sorted_two w.heap.size (w.heap.size + 1) b off cap 7 7 (w.alloc (.cells #[.slice (some ⟨b, off, none⟩) 2 cap] 23)) (by simp) (by simp) (by have := h.1; omega) (by simp) h1.2.1 h1.2.2 (by omega)
  have HS := Lib.hid hsort
  have HN := Lib.hid hn
  have H0 := Lib.hid h
  clear hsort hn h h1
  go_enter Try.func19, Try.ntmps19
  go_wp2_with (first | (go_at_call 49; refine (val_any _ _ _ _).mono ?_; rintro e w' ⟨rfl, rfl⟩))
  refine HS.out.mono ?_; rintro e w2 ⟨g, cap2, rfl, h2, ⟨t0, t1, t2, t3, t4⟩, hB2⟩
  have HB2 : Hid (Below w.heap.size w w2) := Lib.hid (HN.out.trans (hB2.mono (Nat.le_succ _)))
  have HT : Hid (TwoAt (w.heap.size + 1) w2 g 7 7) := Lib.hid ⟨t0, t1, t2, t3, t4⟩
  have HZ : Hid (w.heap.size + 1 ≤ w2.heap.size) := Lib.hid (by have := hB2.size; simpa using this)
  clear hB2 t0 t3 t4 HN
  go_wp2_with fail
  refine (compact_same (w.heap.size + 1) g cap2 7 _ h2 HT.out HZ.out).mono ?_; rintro e w3 ⟨rfl, hB3⟩
  have HB3 : Hid (Below w.heap.size w w3) := Lib.hid (HB2.out.trans (hB3.mono (Nat.le_succ _)))
  clear hB3 t1 t2 h2
  go_wp2_with fail
  go_ret2
  exact ⟨rfl, HB3.out⟩

/-- What append makes of a row of the call's own lies above the first block. -/
theorem below_own {w W w1 : World} {e : TypeId} {size n : Nat} {v : Value} {xs : List Value} (hB : Below w.heap.size w W) (hk : Keeps (fun i => v.ownBlock = some i) W w1) (ho : W.ownsRow w.heap.size e size v n xs) : Below w.heap.size w w1 :=
  below_keeps hB hk (Nat.le_refl _) (fun i hi => (own_base ho i hi).1)

set_option maxRecDepth 100000 in
set_option maxHeartbeats 4000000 in
theorem getspots_79 (g : Nat) (w : World) (r : Rd w .u8 (some ⟨g, 0, none⟩) 9 [2, 0, 0, 0, 7, 0, 0, 0, 9]) :
    Calls Try.prog 21 #[.slice (some ⟨g, 0, none⟩) 9 9] w fun e w' => ∃ g', e = .returned (.tuple #[.slice (some ⟨g', 0, none⟩) 2 2, .int .i64 0]) ∧ TwoIn w' g' 0 7 9 ∧ Below w.heap.size w w' := by
  obtain ⟨b, off, eb, hgl, hc⟩ := r.row (by omega)
  injection eb with eb
  injection eb with e1 e2
  subst e1 e2
  have hc0 := hc 0 (by omega)
  simp only [Nat.zero_add, List.getElem?_cons_zero, Option.getD_some] at hc0
  have s1 : ∀ W : World, (Instr.slice 38 (.slice (some ⟨g, 0, none⟩) 9 9) (some (.int .i64 1)) none none).run Try.prog W = .ok (.slice (some ⟨g, 1, none⟩) 8 8) W := fun W => by kernel_rfl
  have s5 : ∀ W : World, (Instr.slice 38 (.slice (some ⟨g, 0, none⟩) 9 9) (some (.int .i64 5)) none none).run Try.prog W = .ok (.slice (some ⟨g, 5, none⟩) 4 4) W := fun W => by kernel_rfl
  have hf1 := four_any (some ⟨g, 0 + 1, none⟩) 8 8 _ 7 w (r.sub 1 8 (by omega)) (Nat.le_refl _) (by omega) (by decide) (by omega) (by omega)
  have HR := Lib.hid r
  have HF1 := Lib.hid hf1
  clear r hf1 hc
  go_enter Try.func21, Try.ntmps21
  go_wp2_with fail
  refine wp_loop_rounds 3 ?_
  rw [rounds_succ]
  go_wp2_with fail
  refine HF1.out.mono ?_; rintro e w1 ⟨rfl, hB1⟩
  have HB1 := Lib.hid hB1
  clear hB1
  go_wp2_with (at_builtin; refine append_int (W := w1) w.heap.size rfl _ _ 23 101 .u32 4 rfl Try.underlying23 info_spot (by omega) (.slice none 0 0) 0 [] 7 rfl rfl (own_nil _ _ _ _) HB1.out.size (by omega) ?_; intro v2 w2 ho2 hk2 _)
  have HB2 := Lib.hid (below_own HB1.out hk2 (own_nil _ _ 101 1))
  have HO2 := Lib.hid ho2
  have hf2 := four_any (some ⟨g, 0 + 5, none⟩) 4 4 _ 9 w2 ((HR.out.below HB2.out).sub 5 4 (by omega)) (Nat.le_refl _) (by omega) (by decide) (by omega) (by omega)
  have HF2 := Lib.hid hf2
  obtain ⟨A2, c2, rfl, hc2, _⟩ := own_slice ho2
  clear hf2 ho2 hk2
  go_wp2_with fail
  rw [rounds_succ]
  go_wp2_with fail
  refine HF2.out.mono ?_; rintro e w3 ⟨rfl, hB3⟩
  have HO3 := Lib.hid ((Keeps.of_below (M := fun _ => False) hB3).own HO2.out (fun _ _ hf => hf))
  have HB3 := Lib.hid (HB2.out.trans (hB3.mono HB2.out.size))
  clear hB3
  go_wp2_with (at_builtin; refine append_int (W := w3) w.heap.size rfl _ _ 23 101 .u32 4 rfl Try.underlying23 info_spot (by omega) (.slice A2 1 c2) 1 [7] 9 rfl rfl HO3.out HB3.out.size (by omega) ?_; intro v4 w4 ho4 hk4 _)
  have HB4 := Lib.hid (below_own HB3.out hk4 HO3.out)
  obtain ⟨g4, cap4, rfl, hc4, ⟨t0, t1, t2, t3, t4⟩⟩ := two_of_row (by simpa using ho4)
  have HT4 : Hid (TwoIn w4 g4 0 7 9) := Lib.hid ⟨t1, t2, t3⟩
  clear ho4 hk4 t0 t1 t2 t3 t4
  go_wp2_with fail
  rw [rounds_succ]
  go_wp2_with fail
  refine (putspots_79 g4 0 cap4 w4 HT4.out).mono ?_; rintro e w5 ⟨g5, rfl, hr5, hB5⟩
  have HT5 := Lib.hid (HT4.out.below hB5)
  have HB5 := Lib.hid (HB4.out.trans (hB5.mono HB4.out.size))
  clear hr5 hB5
  go_wp2_with fail
  refine (clipS_all (some ⟨g4, 0, none⟩) 2 cap4 w5 hc4).mono ?_; rintro e w6 ⟨rfl, rfl⟩
  go_wp2_with fail
  go_ret2
  exact ⟨g4, rfl, HT5.out, HB5.out⟩

set_option maxRecDepth 100000 in
set_option maxHeartbeats 1000000 in
theorem samespots_79 (a b ca cb : Nat) (w : World) (ha : TwoIn w a 0 7 9) (hb : TwoIn w b 0 7 9) :
    Calls Try.prog 23 #[.slice (some ⟨a, 0, none⟩) 2 ca, .slice (some ⟨b, 0, none⟩) 2 cb] w fun e w' => e = .returned (.bool true) ∧ Below w.heap.size w w' := by
  obtain ⟨_, a0, a1⟩ := ha
  obtain ⟨_, b0, b1⟩ := hb
  go_enter Try.func23, Try.ntmps23
  go_wp2_with fail
  refine wp_loop_rounds 3 ?_
  rw [rounds_succ]
  go_wp2_with fail
  go_region_held3 (fun w' => w'.cell? ⟨a, 0, none⟩ = some (.int .u32 7) ∧ w'.cell? ⟨b, 0, none⟩ = some (.int .u32 7))
    (((try dsimp only); refine ⟨?_, ?_⟩ <;> (first | assumption | (go_keep; done))))
    (fail)
  have a1' : w.drew.cell? ⟨a, 0 + 1, none⟩ = some (.int .u32 9) := a1
  have b1' : w.drew.cell? ⟨b, 0 + 1, none⟩ = some (.int .u32 9) := b1
  simp only [Nat.zero_add] at a1' b1'
  go_wp2_with fail
  rw [rounds_succ]
  go_wp2_with fail
  go_region_held3 (fun w' => w'.cell? ⟨a, 1, none⟩ = some (.int .u32 9) ∧ w'.cell? ⟨b, 1, none⟩ = some (.int .u32 9))
    (((try dsimp only); refine ⟨?_, ?_⟩ <;> (first | assumption | (go_keep; done))))
    (fail)
  go_wp2_with fail
  rw [rounds_succ]
  go_wp2_with fail
  go_ret
  exact ⟨rfl, (drew_below w).trans (drew_below w.drew)⟩
end Go.Proofs.Ytlcnjdpfijgcdaa

namespace Go.Proofs.Ytlcnjdpfijgcdaa
open Go.RowKit Go.Shelf
set_option linter.unusedSimpArgs false
set_option linter.unusedVariables false

def atL (xs : List Int) : Nat → Int := fun j => xs[j]?.getD 0
/-- What PutSpots answers. -/
def SpPut (w : World) (n : Nat) (xs : List Int) (e : Ending) (w' : World) : Prop :=
  ((SpOk n (atL xs) ∧ ∃ g, w.heap.size ≤ g ∧ e = .returned (.tuple #[.slice (some ⟨g, 0, none⟩) (1 + 4 * n) (1 + 4 * n), .int .i64 0]) ∧ Blk w' g 5 ((spPre n (atL xs) n).map (Value.int .u8)))
    ∨ (¬ SpOk n (atL xs) ∧ e = .returned (.tuple #[.slice none 0 0, .int .i64 1]))) ∧ Below w.heap.size w w'
theorem spPre_byte (n : Nat) (f : Nat → Int) (hn : n ≤ 255) : ∀ k, ∀ x ∈ spPre n f k, 0 ≤ x ∧ x ≤ 255
  | 0 => fun x hx => by simp [spPre] at hx; omega
  | k + 1 => fun x hx => by
    rw [spPre, List.mem_append] at hx
    rcases hx with hx | hx
    · exact spPre_byte n f hn k x hx
    · exact be_byte 4 _ x hx
theorem wf_u32 {x : Int} (h : (Lit.int .u32 x).wf = true) : 0 ≤ x ∧ x ≤ 4294967295 := by
  simp [Lit.wf, IntKind.min, IntKind.max, IntKind.wrap, IntKind.bits, IntKind.signed] at h
  omega
/-- A box that holds the list, ahead of the sort. -/
theorem sorted_box (A : Option Addr) (n c : Nat) (xs : List Int) (w : World) (r : Rd w .u32 A n xs) (hn : n ≤ 35184372087808) :
    Calls Try.prog 48 #[.func (.func 71) #[] #[.pointer (some ⟨w.heap.size, 0, none⟩)]] (w.alloc (.cells #[.slice A n c] 23)) fun e w' => ∃ v, e = .returned v ∧ ((n = 0 ∧ ∃ A' c', v = .slice A' 0 c') ∨ (∃ g c' f', v = .slice (some ⟨g, 0, none⟩) n c' ∧ n ≤ c' ∧ w.heap.size ≤ g ∧ RowF w' g n f' ∧ Shuf n (atL xs) f' ∧ (n ≤ 12 → SortF f' 0 n))) ∧ Below w.heap.size w w' := by
  have hB : Below w.heap.size w (w.alloc (.cells #[.slice A n c] 23)) := new_below w _
  have hl := r.len
  subst hl
  by_cases h0 : 0 < xs.length
  · obtain ⟨b, off, rfl, hb, hc⟩ := r.row h0
    refine (sorted_any w.heap.size w.heap.size b off c (some ⟨b, off, none⟩) xs (fun _ => rfl) hn (w.alloc _) (by simp) (by simp) (fun _ => hb) (by simp) (fun j hj => (hB.cell (p := ⟨b, off + j, none⟩) hb).trans (hc j hj))).mono ?_
    rintro e w' ⟨v, he, h, hB2⟩
    exact ⟨v, he, h, hB.trans hB2⟩
  · refine (sorted_any w.heap.size w.heap.size 0 0 c A xs (fun h => absurd h h0) hn (w.alloc _) (by simp) (by simp) (fun h => absurd h h0) (by simp) (fun j hj => by omega)).mono ?_
    rintro e w' ⟨v, he, h, hB2⟩
    exact ⟨v, he, h, hB.trans hB2⟩
set_option maxRecDepth 100000 in
set_option maxHeartbeats 8000000 in
theorem putspots_any (A : Option Addr) (n c : Nat) (xs : List Int) (w : World) (r : Rd w .u32 A n xs) (l : n ≤ c) (hn : n ≤ 35184372087808) :
    Calls Try.prog 19 #[.slice A n c] w (SpPut w n xs) := by
  have HS := Lib.hid (sorted_box A n c xs w r hn)
  have HR := Lib.hid r
  have hpos : ∀ j, j < n → 0 ≤ atL xs j := fun j hj => (wf_u32 (r.mem hj)).1
  have HPOS := Lib.hid hpos
  clear r hpos
  go_enter Try.func19, Try.ntmps19
  go_wp2_with (first | (go_at_call 49; refine (val_any _ _ _ _).mono ?_; rintro e w' ⟨rfl, rfl⟩))
  refine HS.out.mono ?_; rintro e w1 ⟨v, rfl, hv, hB⟩
  have HB := Lib.hid hB
  clear hB HS
  by_cases hn0 : n = 0
  · have HNO : Hid (¬ SpOk n (atL xs)) := Lib.hid (fun h => by have := h.1; omega)
    have hv2 : ∃ A' c', v = .slice A' 0 c' := by
      rcases hv with ⟨_, h⟩ | ⟨g, c', f', h, _⟩
      · exact h
      · exact ⟨_, c', by rw [h, hn0]⟩
    obtain ⟨A', c', rfl⟩ := hv2
    have f1 : ((n : Int) < 1) = True := eq_true (by omega)
    clear hv hn0
    go_wp2_with fail
    go_ret2
    exact ⟨.inr ⟨HNO.out, rfl⟩, HB.out⟩
  · obtain ⟨g, c', f', rfl, hcc, hg, hrow, hsh, hso⟩ : ∃ g c' f', v = .slice (some ⟨g, 0, none⟩) n c' ∧ n ≤ c' ∧ w.heap.size ≤ g ∧ RowF w1 g n f' ∧ Shuf n (atL xs) f' ∧ (n ≤ 12 → SortF f' 0 n) := by
      rcases hv with ⟨h, _⟩ | h
      · exact absurd h hn0
      · exact h
    have f1 : ((n : Int) < 1) = False := eq_false (by omega)
    by_cases hn4 : 4 < n
    · have HNO : Hid (¬ SpOk n (atL xs)) := Lib.hid (fun h => by have := h.2.1; omega)
      have f2 : ((4 : Int) < (n : Int)) = True := eq_true (by omega)
      clear hv hn0 hn4 hcc hg hrow hsh hso
      go_wp2_with fail
      go_ret2
      exact ⟨.inr ⟨HNO.out, rfl⟩, HB.out⟩
    · have f2 : ((4 : Int) < (n : Int)) = False := eq_false (by omega)
      have f3 : (0 : Int) < (n : Int) := by omega
      have f4 : 0 < n := by omega
      have c0 := hrow.cell (j := 0) f4
      obtain ⟨x, hx⟩ : ∃ x, f' 0 = x := ⟨_, rfl⟩
      rw [hx] at c0
      have hz := spok_zero hsh (hso (by omega)) f4 HPOS.out
      rw [hx] at hz
      have HZ := Lib.hid hz
      have HG := Lib.hid hg
      have HCC := Lib.hid hcc
      have HROW := Lib.hid hrow
      have HSH := Lib.hid hsh
      have HSO := Lib.hid (hso (by omega))
      have HN := Lib.hid (show 1 ≤ n ∧ n ≤ 4 by omega)
      clear hv hn0 hn4 hcc hg hrow hsh hso hz hx
      by_cases hx0 : x = 0
      · have HNO : Hid (¬ SpOk n (atL xs)) := Lib.hid (fun h => by
          obtain ⟨j, hj, h0⟩ := HZ.out.1 hx0
          exact h.2.2.1 j hj h0)
        have f5 : (x == 0) = true := beq_iff_eq.2 hx0
        clear hx0
        go_wp2_with fail
        go_ret2
        exact ⟨.inr ⟨HNO.out, rfl⟩, HB.out⟩
      · have f5 : (x == 0) = false := beq_eq_false_iff_ne.2 hx0
        have HX := Lib.hid hx0
        have HCM := Lib.hid (compF_any g n c' f' w1 HROW.out HCC.out (by omega))
        clear hx0
        go_wp2_with fail
        refine HCM.out.mono ?_; rintro e w2 ⟨m, rfl, hm, hk⟩
        have HB1 := HB
        clear HB
        have HB : Hid (Below w.heap.size w w2) := Lib.hid (below_keeps HB1.out hk (Nat.le_refl _) (fun i hi => by rw [hi]; exact HG.out))
        clear hk HCM HB1
        rcases hm with ⟨rfl, hu⟩ | ⟨hlt, hlk⟩
        · have HOK : Hid (SpOk m (atL xs)) := Lib.hid ⟨HN.out.1, HN.out.2, fun j hj h0 => HX.out (HZ.out.2 ⟨j, hj, h0⟩), spok_un HSH.out HSO.out hu⟩
          have f6 : ((m : Int) < (m : Int)) = False := eq_false (by omega)
          obtain ⟨b, off, rfl, hb, hc⟩ := HR.out.row f4
          have HBL := Lib.hid hb
          have HCL := Lib.hid hc
          have hw8 : IntKind.u8.wrap (m : Int) = (m : Int) := IntWalk.u8_in _ (by have := HN.out; omega)
          have hB3 : Below w.heap.size w (w2.alloc (.cells #[.int .u8 (m : Int)] 5)) := HB.out.alloc HB.out.size _
          have hk3 : Blk (w2.alloc (.cells #[.int .u8 (m : Int)] 5)) w2.heap.size 5 ((spPre m (atL xs) 0).map (Value.int .u8)) := Blk.new w2 5 [.int .u8 (m : Int)]
          have HB3 := Lib.hid hB3
          have HK3 := Lib.hid hk3
          have HG3 := Lib.hid HB.out.size
          clear hu hb hc hB3 hk3 c0
          go_wp2_with fail
          go_loopg [5, 7, 39] m (fun gas s5 s7 s39 wr => ∃ j gq : Nat, m - j = gas ∧ j ≤ m ∧ s39 = .int .i64 (j : Int) ∧ s5 = .slice (some ⟨gq, 0, none⟩) (1 + 4 * j) (1 + 4 * j) ∧ w.heap.size ≤ gq ∧ Blk wr gq 5 ((spPre m (atL xs) j).map (Value.int .u8)) ∧ Below w.heap.size w wr)
          case atStart => exact ⟨0, w2.heap.size, rfl, Nat.zero_le _, rfl, rfl, HG3.out, HK3.out, HB3.out⟩
          case round =>
            obtain ⟨j, gq, rfl, hj, rfl, rfl, hgq, hk, hB⟩ := hrel
            have HGQ := Lib.hid hgq
            have HK := Lib.hid hk
            have HBR := Lib.hid hB
            clear hgq hk hB
            by_cases hlt : (j : Int) < (m : Int)
            · have hjm : j < m := by omega
              have hcx : wr.cell? ⟨b, off + j, none⟩ = some (.int .u32 (atL xs j)) := (HBR.out.cell (p := ⟨b, off + j, none⟩) HBL.out).trans (HCL.out j hjm)
              obtain ⟨v0, v1⟩ := wf_u32 (HR.out.mem hjm)
              have v0' : 0 ≤ atL xs j := v0
              have v1' : atL xs j ≤ 4294967295 := v1
              obtain ⟨v, hv⟩ : ∃ v, atL xs j = v := ⟨_, rfl⟩
              have hwv : IntKind.u64.wrap v = v := IntWalk.u64_in _ (by omega)
              have hwj : IntKind.i64.wrap ((j : Int) + 1) = ((j + 1 : Nat) : Int) := by rw [IntWalk.i64_in _ (by omega)]; omega
              have hr : Rd wr .u8 (some ⟨gq, 0, none⟩) (1 + 4 * j) (spPre m (atL xs) j) := rd_of_blk HK.out (spPre_byte m _ (by have := HN.out; omega) j) (spPre_length ..) (by have := HN.out; omega)
              have hput := put_any (some ⟨gq, 0, none⟩) (1 + 4 * j) (1 + 4 * j) _ v 4 wr hr (Nat.le_refl _) (by omega) (by omega)
              have e4 : putMany 4 = 4 := by decide
              rw [e4] at hput
              have HPUT := Lib.hid hput
              have HV := Lib.hid hv
              have HJ := Lib.hid (show j + 1 ≤ m ∧ m - (j + 1) < m - j by omega)
              have j0 : (0 : Int) ≤ (j : Int) := by omega
              rw [hv] at hcx
              clear hr hput e4 hv v0 v1 v0' v1' hj hjm
              go_wp2_with fail
              refine HPUT.out.mono ?_; rintro e w4 ⟨g4, hg4, rfl, hk4, hB4⟩
              have e5 : spPre m (atL xs) j ++ be v 4 = spPre m (atL xs) (j + 1) := by rw [spPre, HV.out]
              rw [e5] at hk4
              rw [e5, spPre_length]
              have HK4 := Lib.hid hk4
              have HB4 := Lib.hid (HBR.out.trans (hB4.mono HBR.out.size))
              have HG4 := Lib.hid (Nat.le_trans HBR.out.size hg4)
              clear hk4 hB4 hg4 e5 hcx
              go_wp2_with fail
              go_roundg (m - (j + 1))
              case rel => exact ⟨j + 1, g4, rfl, HJ.out.1, (by go_num), rfl, HG4.out, HK4.out, HB4.out⟩
              case measure => exact HJ.out.2
            · have hltf : ((j : Int) < (m : Int)) = False := eq_false hlt
              obtain rfl : j = m := by omega
              clear hlt hj
              go_wp2_with fail
              refine (clip_all (some ⟨gq, 0, none⟩) (1 + 4 * j) (1 + 4 * j) wr (Nat.le_refl _)).mono ?_; rintro e w7 ⟨rfl, rfl⟩
              go_wp2_with fail
              go_ret2
              exact ⟨.inl ⟨HOK.out, gq, HGQ.out, rfl, HK.out⟩, HBR.out⟩
        · have HNO : Hid (¬ SpOk n (atL xs)) := Lib.hid (fun h => spok_like HSH.out hlk h.2.2.2)
          have f6 : ((m : Int) < (n : Int)) = True := eq_true (by omega)
          clear hlt hlk
          go_wp2_with fail
          go_ret2
          exact ⟨.inr ⟨HNO.out, rfl⟩, HB.out⟩
end Go.Proofs.Ytlcnjdpfijgcdaa
