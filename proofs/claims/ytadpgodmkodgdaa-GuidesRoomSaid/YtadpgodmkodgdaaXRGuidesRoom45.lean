/- The walk over burrowlaw26's alive; Parameters that are arrays or structs, opened: part by part. -/
import Derived.Test.YtadpgodmkodgdaaXRGuidesRoom38
import Derived.Test.YtadpgodmkodgdaaXRGuidesRoom44
import Derived.Test.YtadpgodmkodgdaaXRGuidesRoom43
import Derived.Test.YtadpgodmkodgdaaBase
import Derived.ChangeSlices
import Derived.ChangeArms
import Derived.SizedLaws
import Derived.ProofKit
import Derived.OpenShut
namespace Go.Proofs.Ytadpgodmkodgdaa
open Go.RowKit
set_option linter.unusedSimpArgs false
set_option linter.unusedVariables false

def tag1 : List Int := 1 :: List.replicate 15 0
def tag0 : List Int := List.replicate 16 0
def key3 : List Int := 3 :: List.replicate 31 0
theorem put_ok {a a' : List Gd} {tag : List Int} {sp left s k E : Int} (h : Hold a tag sp left) (hp : PutIs a tag s k E a') (hroom : (∃ e ∈ a, isTag tag e = true) ∨ ∃ e ∈ a, free e = true) (hv : ¬ (s = 0 ∨ k < 1 ∨ 256 < k)) : E = 0 ∧ Hold a' tag s k := (h.same hp hroom).1 hv
theorem put_arg {a a' : List Gd} {tag : List Int} {s k E : Int} (hp : PutIs a tag s k E a') (hv : s = 0 ∨ k < 1 ∨ 256 < k) : E = 1 ∧ a' = a := by
  rcases hp with ⟨_, h1, h2⟩ | ⟨hn, _⟩ | ⟨hn, _⟩
  · exact ⟨h1, h2⟩
  · exact absurd hv hn
  · exact absurd hv hn
theorem keep_below {T : Nat} {w0 w w' : World} (hb : Below w0.heap.size w0 w) (hk : Keeps (· = T) w w') (hT : w0.heap.size ≤ T) : Below w0.heap.size w0 w' := below_keeps hb hk (Nat.le_refl _) (fun i hi => by rw [hi]; exact hT)
theorem key3_ok : key3.length = 32 ∧ Bytes key3 := ⟨rfl, fun x hx => by simp [key3] at hx; omega⟩
theorem isB_zer16 : isB zer16 := fun x hx => by simp [zer16] at hx; omega
set_option maxRecDepth 100000 in
set_option maxHeartbeats 4000000 in
theorem alive_any (w : World) : Calls Try.prog 6 #[] w fun e w' => e = .returned (.bool true) ∧ Below w.heap.size w w' := by
  have hput1 : ∀ T a s k W, TabAt W T a → TabOk a → Calls Try.prog 8 #[.pointer (some ⟨T, 0, none⟩), .agg #[.int .u8 1, .int .u8 0, .int .u8 0, .int .u8 0, .int .u8 0, .int .u8 0, .int .u8 0, .int .u8 0, .int .u8 0, .int .u8 0, .int .u8 0, .int .u8 0, .int .u8 0, .int .u8 0, .int .u8 0, .int .u8 0], .int .u32 s, .int .u32 k] W fun e w' => ∃ E a', e = .returned (.int .i64 E) ∧ PutIs a tag1 s k E a' ∧ TabAt w' T a' ∧ Keeps (· = T) W w' := fun T a s k W h1 h2 => put_tab T a tag1 s k W h1 h2 rfl
  have hput0 : ∀ T a s k W, TabAt W T a → TabOk a → Calls Try.prog 8 #[.pointer (some ⟨T, 0, none⟩), .agg #[.int .u8 0, .int .u8 0, .int .u8 0, .int .u8 0, .int .u8 0, .int .u8 0, .int .u8 0, .int .u8 0, .int .u8 0, .int .u8 0, .int .u8 0, .int .u8 0, .int .u8 0, .int .u8 0, .int .u8 0, .int .u8 0], .int .u32 s, .int .u32 k] W fun e w' => ∃ E a', e = .returned (.int .i64 E) ∧ PutIs a tag0 s k E a' ∧ TabAt w' T a' ∧ Keeps (· = T) W w' := fun T a s k W h1 h2 => put_tab T a tag0 s k W h1 h2 rfl
  have hget1 : ∀ T a W, TabAt W T a → TabOk a → Calls Try.prog 9 #[.pointer (some ⟨T, 0, none⟩), .agg #[.int .u8 1, .int .u8 0, .int .u8 0, .int .u8 0, .int .u8 0, .int .u8 0, .int .u8 0, .int .u8 0, .int .u8 0, .int .u8 0, .int .u8 0, .int .u8 0, .int .u8 0, .int .u8 0, .int .u8 0, .int .u8 0]] W fun e w' => ∃ s E, e = .returned (.tuple #[.int .u32 s, .int .i64 E]) ∧ GetIs a tag1 s E ∧ Below W.heap.size W w' := fun T a W h1 h2 => get_tab T a tag1 W h1 h2 rfl
  have hrel : ∀ W, Calls Try.prog 12 #[.agg #[.int .u8 1, .int .u8 0, .int .u8 0, .int .u8 0, .int .u8 0, .int .u8 0, .int .u8 0, .int .u8 0, .int .u8 0, .int .u8 0, .int .u8 0, .int .u8 0, .int .u8 0, .int .u8 0, .int .u8 0, .int .u8 0, .int .u8 0, .int .u8 0, .int .u8 0, .int .u8 0, .int .u8 0, .int .u8 0, .int .u8 0, .int .u8 0, .int .u8 0, .int .u8 0, .int .u8 0, .int .u8 0, .int .u8 0, .int .u8 0, .int .u8 0, .int .u8 0, .int .u8 0, .slice none 0 0], .int .u32 9, .agg #[.int .u8 3, .int .u8 0, .int .u8 0, .int .u8 0, .int .u8 0, .int .u8 0, .int .u8 0, .int .u8 0, .int .u8 0, .int .u8 0, .int .u8 0, .int .u8 0, .int .u8 0, .int .u8 0, .int .u8 0, .int .u8 0, .int .u8 0, .int .u8 0, .int .u8 0, .int .u8 0, .int .u8 0, .int .u8 0, .int .u8 0, .int .u8 0, .int .u8 0, .int .u8 0, .int .u8 0, .int .u8 0, .int .u8 0, .int .u8 0, .int .u8 0, .int .u8 0]] W (RelAns key3 1 zer16 zer16 [] 9 W) := fun W => relay_any key3 1 zer16 zer16 [] 9 none 0 0 W ⟨rfl, by omega, fun h => absurd h (by omega)⟩ rfl rfl isB_zer16 isB_zer16 (by omega) key3_ok.1 key3_ok.2 (by omega)
  have horg : ∀ (ps : List Piece) G W, Ps W (some ⟨G, 0, none⟩) 2 ps → Calls Try.prog 13 #[.agg (pktC 1 zer16 zer16 (.slice (some ⟨G, 0, none⟩) 2 2)).toArray, .agg #[.int .u8 3, .int .u8 0, .int .u8 0, .int .u8 0, .int .u8 0, .int .u8 0, .int .u8 0, .int .u8 0, .int .u8 0, .int .u8 0, .int .u8 0, .int .u8 0, .int .u8 0, .int .u8 0, .int .u8 0, .int .u8 0, .int .u8 0, .int .u8 0, .int .u8 0, .int .u8 0, .int .u8 0, .int .u8 0, .int .u8 0, .int .u8 0, .int .u8 0, .int .u8 0, .int .u8 0, .int .u8 0, .int .u8 0, .int .u8 0, .int .u8 0, .int .u8 0]] W (OrgAns (orgR key3 1 zer16 zer16 ps) W) := fun ps G W h => origin_any key3 1 zer16 zer16 ps _ 2 2 W h (by omega) rfl rfl isB_zer16 isB_zer16 (by omega) key3_ok.1 key3_ok.2
  have HPUT1 := Lib.hid hput1
  have HPUT0 := Lib.hid hput0
  have HGET1 := Lib.hid hget1
  have HREL := Lib.hid hrel
  have HORG := Lib.hid horg
  clear hput1 hput0 hget1 hrel horg
  have HAL := Lib.hid alloc_pkt
  have HZL : Hid (zPktL.length = 34) := Lib.hid rfl
  have HU := Lib.hid Try.underlying45
  generalize zPktL = Z at HAL HZL
  go_enter Try.func6, Try.ntmps6
  go_wp2_with fail
  refine (new_any _).mono ?_
  rintro e w1 ⟨rfl, rfl⟩
  obtain ⟨T, hT⟩ : ∃ T, w.heap.size = T := ⟨_, rfl⟩
  have ht := TabAt.new w
  have hb := new_below w (.cells (tabC eightG).toArray 63)
  rw [hT] at ht ⊢
  generalize w.alloc (.cells (tabC eightG).toArray 63) = w1 at ht hb ⊢
  have HTB1 := Lib.hid ht
  have HB1 := Lib.hid hb
  have HTT : Hid (w.heap.size ≤ T) := Lib.hid (by rw [hT]; exact Nat.le_refl _)
  have HH1 : Hid (Hold eightG tag1 0 0) := Lib.hid (hold_new tag1)
  have HO1 : Hid (Only eightG tag1) := Lib.hid (only_new tag1)
  clear ht hb hT
  go_wp2_with fail
  refine (HPUT1.out T eightG 5 2 w1 HTB1.out HH1.out.nat).mono ?_
  rintro e w2 ⟨E2, a2, rfl, hp2, ht2, hk2⟩
  obtain ⟨rfl, hh2⟩ := put_ok HH1.out hp2 (.inr eight_free) (by omega)
  have HTB2 := Lib.hid ht2
  have HH2 := Lib.hid hh2
  have HO2 := Lib.hid (HO1.out.put hp2)
  have HB2 := Lib.hid (keep_below HB1.out hk2 HTT.out)
  clear hp2 ht2 hk2 hh2
  go_wp2_with fail
  refine (HGET1.out T a2 w2 HTB2.out HH2.out.nat).mono ?_
  rintro e w3 ⟨s3, E3, rfl, hg3, hb3⟩
  obtain ⟨rfl, rfl⟩ := (HH2.out.get hg3).1 (by omega)
  have HTB3 := Lib.hid (HTB2.out.below hb3)
  have HB3 := Lib.hid (HB2.out.trans (hb3.mono HB2.out.size))
  clear hg3 hb3
  go_wp2_with fail
  refine (tick_tab T a2 w3 HTB3.out HH2.out.nat).mono ?_
  rintro e w4 ⟨rfl, ht4, hk4⟩
  have HTB4 := Lib.hid ht4
  have HH4 : Hid (Hold (a2.map tickI) tag1 5 1) := Lib.hid HH2.out.tick
  have HO4 := Lib.hid (HO2.out.tick (fun e he => (HH2.out.nat e he).1))
  have HB4 := Lib.hid (keep_below HB3.out hk4 HTT.out)
  generalize a2.map tickI = a4 at HTB4 HH4 HO4
  clear ht4 hk4
  go_wp2_with fail
  refine (HGET1.out T a4 w4 HTB4.out HH4.out.nat).mono ?_
  rintro e w5 ⟨s5, E5, rfl, hg5, hb5⟩
  obtain ⟨rfl, rfl⟩ := (HH4.out.get hg5).1 (by omega)
  have HTB5 := Lib.hid (HTB4.out.below hb5)
  have HB5 := Lib.hid (HB4.out.trans (hb5.mono HB4.out.size))
  clear hg5 hb5
  go_wp2_with fail
  refine (tick_tab T a4 w5 HTB5.out HH4.out.nat).mono ?_
  rintro e w6 ⟨rfl, ht6, hk6⟩
  have HTB6 := Lib.hid ht6
  have HH6 : Hid (Hold (a4.map tickI) tag1 5 0) := Lib.hid HH4.out.tick
  have HO6 := Lib.hid (HO4.out.tick (fun e he => (HH4.out.nat e he).1))
  have HB6 := Lib.hid (keep_below HB5.out hk6 HTT.out)
  generalize a4.map tickI = a6 at HTB6 HH6 HO6
  clear ht6 hk6
  go_wp2_with fail
  refine (HGET1.out T a6 w6 HTB6.out HH6.out.nat).mono ?_
  rintro e w7 ⟨s7, E7, rfl, hg7, hb7⟩
  obtain ⟨rfl, rfl⟩ := (HH6.out.get hg7).2 (by omega)
  have HTB7 := Lib.hid (HTB6.out.below hb7)
  have HB7 := Lib.hid (HB6.out.trans (hb7.mono HB6.out.size))
  clear hg7 hb7
  go_wp2_with fail
  refine (HREL.out w7).mono ?_
  intro e w8 hr8
  have hr9 : OnAns key3 1 zer16 zer16 [(65498, be 9 4)] 65502 w7 e w8 := by
    rcases hr8 with ⟨h, _⟩ | ⟨_, h, _⟩ | ⟨_, _, _, h⟩
    · omega
    · simp at h
    · exact h
  rcases hr9 with ⟨h, _⟩ | ⟨_, G, cells, N, rfl, hN, ho8, hb8⟩
  · exact absurd (onE_one key3 zer16 zer16 (be 9 4) (be_length 4 9)) h
  rw [onL_one] at hN ho8
  have hN2 : N = 2 := by rw [← hN]; rfl
  subst hN2
  have hok8 : ∀ p ∈ [(65498, be 9 4), (65502, covB key3 1 zer16 zer16 [(65498, be 9 4)])], okPiece p := (fun p hp => by
    simp only [List.mem_cons, List.not_mem_nil, or_false] at hp
    rcases hp with rfl | rfl
    · exact ⟨by simp, by simp, be_bytes 4 9⟩
    · exact ⟨by simp, by simp, macOf_bytes _ _⟩)
  have hln8 : ∀ p ∈ [((65498 : Int), be 9 4), (65502, covB key3 1 zer16 zer16 [(65498, be 9 4)])], p.2.length ≤ 140737488351232 := (fun p hp => by
    simp only [List.mem_cons, List.not_mem_nil, or_false] at hp
    rcases hp with rfl | rfl
    · simp [be_length]
    · show (covB key3 1 zer16 zer16 [(65498, be 9 4)]).length ≤ _; rw [covB, macOf_length]; omega)
  have HOK8 := Lib.hid hok8
  have HLN8 := Lib.hid hln8
  have HOB := Lib.hid (org_back key3 zer16 zer16 9 (by omega) (by omega))
  obtain ⟨PS, hPS⟩ : ∃ PS, [((65498 : Int), be 9 4), (65502, covB key3 1 zer16 zer16 [(65498, be 9 4)])] = PS := ⟨_, rfl⟩
  have HPL : Hid (PS.length = 2) := Lib.hid (by rw [← hPS]; rfl)
  rw [hPS] at ho8 HOK8 HLN8 HOB
  have HO8' := Lib.hid ho8
  have HTB8 := Lib.hid (HTB7.out.below hb8)
  have HB8 := Lib.hid (HB7.out.trans (hb8.mono HB7.out.size))
  obtain ⟨V, hV⟩ : ∃ V, pktC 1 zer16 zer16 (.slice (some ⟨G, 0, none⟩) 2 2) = V := ⟨_, rfl⟩
  have HVL : Hid (V.length = 34) := Lib.hid (by rw [← hV]; exact pktC_length rfl rfl)
  have HV1 : Hid (∀ v ∈ V, v.oneCell' = true) := Lib.hid (by rw [← hV]; exact pktC_one)
  have HSV : Hid ((Try.prog.info? 45).map (·.size) = some V.length) := Lib.hid (by rw [HVL.out]; exact info_pkt)
  have HVV := Lib.hid hV
  rw [hV]
  clear hN ho8 hok8 hln8 hPS hb8 hr8 hV
  go_wp2_with (first
    | ((with_reducible refine wpList_isK (o := ⟨some 9, _, _, _, _, _⟩) ?_); refine wpList_allocT (o := ⟨some 9, .alloc 45, _, _, _, _⟩) rfl 45 Z (fun W => HAL.out W _ rfl _) ?_; intro w9 HR9 HB9'; obtain ⟨R, hR⟩ : ∃ R, w8.heap.size = R := ⟨_, rfl⟩; rw [hR] at HR9 ⊢; have HRR := Lib.hid (show w.heap.size ≤ R ∧ T < R by have := HB8.out.size; have := HTB8.out.blk.lt; omega); have HB9 := Lib.hid (HB8.out.trans (HB9'.out.mono HB8.out.size)); have HTB9 := Lib.hid (HTB8.out.below HB9'.out); have HO9' := Lib.hid (HO8'.out.below HB9'.out); clear hR HB9')
    | ((with_reducible refine wpList_isK (o := ⟨none, .store 45 (.tmp 9) (.tmp 43), _, _, _, _⟩) ?_); refine wpList_over (o := ⟨none, .store 45 (.tmp 9) _, _, _, _, _⟩) rfl 45 _ _ rfl R V Z 45 rfl rfl HR9.out (by rw [HVL.out, HZL.out]) HSV.out HV1.out ?_; intro w10 HR10 hk10; have HB10 := Lib.hid (below_keeps HB9.out hk10.out (Nat.le_refl _) (fun i hi => by rw [hi]; exact HRR.out.1)); have HTB10 := Lib.hid (HTB9.out.keep hk10.out (fun h => by have := HRR.out; omega)); have HO10' := Lib.hid (HO9'.out.keep hk10.out (fun k cur hk hh hm => by have h2 := HR9.out; unfold Blk at h2; subst hm; rw [h2] at hh; rcases hh with hh | hh <;> (injection hh with hh; injection hh with _ hh2; revert hh2; decide))); clear hk10)
    | ((with_reducible refine wpList_isK (o := ⟨some 46, _, _, _, _, _⟩) ?_); refine wpList_loadT (o := ⟨some 46, _, _, _, _, _⟩) rfl 45 _ rfl R rfl 45 V _ HR10.out HU.out rfl HSV.out ?_))
  have horg := HORG.out PS G w10 (HO10'.out.asPs HPL.out (by omega) HOK8.out HLN8.out)
  rw [HVV.out] at horg
  refine horg.mono ?_
  clear horg
  rintro e w11 ⟨rfl, hb11⟩
  rw [HOB.out]
  have HTB11 := Lib.hid (HTB10.out.below hb11)
  have HB11 := Lib.hid (HB10.out.trans (hb11.mono HB10.out.size))
  clear hb11
  go_wp2_with fail
  refine (len_tab T a6 w11 HTB11.out HH6.out.nat).mono ?_
  rintro e w12 ⟨rfl, hb12⟩
  rw [HO6.out.none HH6.out (by omega)]
  have HTB12 := Lib.hid (HTB11.out.below hb12)
  have HB12 := Lib.hid (HB11.out.trans (hb12.mono HB11.out.size))
  clear hb12
  go_wp2_with fail
  refine (HPUT0.out T a6 0 2 w12 HTB12.out HH6.out.nat).mono ?_
  rintro e w13 ⟨E13, a13, rfl, hp13, ht13, hk13⟩
  obtain ⟨rfl, rfl⟩ := put_arg hp13 (by omega)
  have HTB13 := Lib.hid ht13
  have HB13 := Lib.hid (keep_below HB12.out hk13 HTT.out)
  clear hp13 ht13 hk13
  go_wp2_with fail
  refine (HPUT0.out T _ 5 257 w13 HTB13.out HH6.out.nat).mono ?_
  rintro e w14 ⟨E14, a14, rfl, hp14, ht14, hk14⟩
  obtain ⟨rfl, rfl⟩ := put_arg hp14 (by omega)
  have HB14 := Lib.hid (keep_below HB13.out hk14 HTT.out)
  clear hp14 ht14 hk14
  go_wp2_with fail
  go_ret
  exact ⟨rfl, HB14.out⟩
end Go.Proofs.Ytadpgodmkodgdaa

namespace Go.Proofs.Ytadpgodmkodgdaa
open Go.RowKit Go.ChangeShapes Go.WideShapes
set_option linter.unusedSimpArgs false
set_option linter.unusedVariables false
section
variable {H : Type} {enc : TypeId × Value → H} {P : Program} {w : World} {base : Nat} {spare : Nat → Bool} {held : Bool} {t e : TypeId} {fuel n : Nat} {cs : List Value} {x : DataW H × List MemPlace}

theorem mapM_parts {α β : Type} {f : α → Option β} : ∀ {L : List α} {xs : List β}, L.mapM f = some xs → xs.length = L.length ∧ ∀ (i : Nat) (a : α), L[i]? = some a → ∃ y, xs[i]? = some y ∧ f a = some y
  | [], xs, h => by
    simp at h
    subst h
    exact ⟨rfl, fun i a h => by simp at h⟩
  | a :: L, xs, h => by
    rw [List.mapM_cons] at h
    simp only [bind, Option.bind_eq_some_iff, pure, Option.some.injEq] at h
    obtain ⟨y, hy, ys, hys, rfl⟩ := h
    obtain ⟨hl, hp⟩ := mapM_parts hys
    refine ⟨by simp [hl], fun i b hb => ?_⟩
    cases i with
    | zero => simp at hb; subst hb; exact ⟨y, rfl, hy⟩
    | succ i => exact hp i b (by simpa using hb)

theorem weights_all {P : Program} {e : TypeId} : ∀ {l : List (DataW H)} {i : Nat} {d : DataW H}, l[i]? = some d → ∀ n ∈ d.weights P e, n ∈ DataW.weightsAll P e l
  | [], _, _, h, _, _ => by simp at h
  | d0 :: l, 0, d, h, n, hn => by
    simp at h; subst h
    simp only [DataW.weightsAll, List.mem_append]
    exact .inl hn
  | d0 :: l, i + 1, d, h, n, hn => by
    simp only [DataW.weightsAll, List.mem_append]
    exact .inr (weights_all (by simpa using h) n hn)

/-- All that a datum weighs is within reach. -/
def Light (P : Program) (t : TypeId) (d : DataW H) : Prop := (d.weights P t).all (· ≤ reachBytes) = true

/-- An array, part by part. -/
theorem open_array (hu : P.underlying t = some (.array n e)) (h : DataW.trod enc P w base spare held fuel t cs = some x) :
    cs.length = P.cellsOf t ∧ ∃ m, ∀ i, i < n → ∃ y, DataW.trod enc P w base spare held m e ((cs.drop (i * P.cellsOf e)).take (P.cellsOf e)) = some y ∧ (Light P t x.1 → Light P e y.1) := by
  cases fuel with
  | zero => simp [DataW.trod] at h
  | succ m =>
    rw [DataW.trod_step] at h
    unfold DataW.trodStep at h
    simp only [hu] at h
    split at h
    · rename_i hl
      simp only [Option.map_eq_some_iff] at h
      obtain ⟨ys, hy, rfl⟩ := h
      refine ⟨hl, m, fun i hi => ?_⟩
      obtain ⟨hlen, hp⟩ := mapM_parts hy
      obtain ⟨y, hy1, hy2⟩ := hp i i (by simp [hi])
      refine ⟨y, hy2, fun hL => List.all_eq_true.2 fun k hk => List.all_eq_true.1 hL k ?_⟩
      simp only [DataW.weights, hu]
      exact weights_all (i := i) (by simp [hy1]) k hk
    · cases h

/-- A struct, field by field. -/
theorem open_struct {fs : Array Field} (hu : P.underlying t = some (.struct fs)) (h : DataW.trod enc P w base spare held fuel t cs = some x) :
    cs.length = P.cellsOf t ∧ ∃ m, ∀ (i : Nat) (f : Field), fs.toList[i]? = some f → ∃ y, DataW.trod enc P w base spare held m f.type ((cs.drop f.offset).take (P.cellsOf f.type)) = some y ∧ (Light P t x.1 → Light P f.type y.1) := by
  cases fuel with
  | zero => simp [DataW.trod] at h
  | succ m =>
    rw [DataW.trod_step] at h
    unfold DataW.trodStep at h
    simp only [hu] at h
    split at h
    · rename_i hl
      simp only [Option.map_eq_some_iff] at h
      obtain ⟨ys, hy, rfl⟩ := h
      refine ⟨hl, m, fun i f hi => ?_⟩
      obtain ⟨hlen, hp⟩ := mapM_parts hy
      obtain ⟨y, hy1, hy2⟩ := hp i f hi
      refine ⟨y, hy2, fun hL => List.all_eq_true.2 fun k hk => List.all_eq_true.1 hL k ?_⟩
      simp only [DataW.weights, hu]
      exact DataW.weights_mem_each (j := i) (by simp [hi]) (by simp [hy1]) k hk
    · cases h

/-- A whole number, a bool. -/
theorem cell_int {k : IntKind} (hu : P.underlying t = some (.int k)) (h : DataW.trod enc P w base spare held fuel t cs = some x) : ∃ a, cs = [.int k a] ∧ (Lit.int k a).wf = true := by
  obtain ⟨a, h1, _, h2⟩ := DataW.trod_int hu h
  exact ⟨a, h1, h2⟩

theorem drop_one {α : Type} {l : List α} {i : Nat} {a : α} (h : (l.drop (i * 1)).take 1 = [a]) : l[i]? = some a := by
  have := congrArg (·[0]?) h
  simpa [List.getElem?_take, List.getElem?_drop] using this

/-- An array of whole numbers. -/
theorem open_array_ints {k : IntKind} (hu : P.underlying t = some (.array n e)) (he : P.underlying e = some (.int k)) (hc : P.cellsOf e = 1) (hct : P.cellsOf t = n) (h : DataW.trod enc P w base spare held fuel t cs = some x) :
    ∃ l : List Int, cs = l.map (Value.int k) ∧ l.length = n ∧ ∀ y ∈ l, (Lit.int k y).wf = true := by
  obtain ⟨hl, m, hp⟩ := open_array hu h
  rw [hct] at hl
  have each : ∀ i, i < n → ∃ a, cs[i]? = some (.int k a) ∧ (Lit.int k a).wf = true := by
    intro i hi
    obtain ⟨y, hy, _⟩ := hp i hi
    rw [hc] at hy
    obtain ⟨a, h1, h2⟩ := cell_int he hy
    exact ⟨a, drop_one h1, h2⟩
  refine ⟨cs.map (fun v => match v with | .int _ a => a | _ => 0), ?_, by simp [hl], ?_⟩
  · apply List.ext_getElem?
    intro i
    rcases Nat.lt_or_ge i n with hi | hi
    · obtain ⟨a, h1, _⟩ := each i hi
      simp [h1]
    · rw [List.getElem?_eq_none (by omega), List.getElem?_eq_none (by simp; omega)]
  · intro y hy
    obtain ⟨v, hv, rfl⟩ := List.mem_map.1 hy
    obtain ⟨i, hi, hvi⟩ := List.getElem_of_mem hv
    obtain ⟨a, h1, h2⟩ := each i (by omega)
    rw [List.getElem?_eq_getElem hi] at h1
    injection h1 with h1
    rw [← hvi, h1]
    exact h2

/-- A slice of whole numbers. -/
structure Sl (w : World) (k : IntKind) (A : Option Addr) (n c : Nat) (xs : List Int) : Prop where
  rd : Rd w k A n xs
  le : n ≤ c
  nil : A = none → c = 0
  cap : c ≤ 140737488351232
  plain : 0 < c → ∃ b off, A = some ⟨b, off, none⟩
theorem open_sl {k : IntKind} (ht : P.underlying t = some (.slice e)) (he : P.underlying e = some (.int k)) (hc : P.cellsOf e = 1) (hb : 0 < P.bytesOf e)
    (h : DataW.trod enc P w 0 (fun _ => true) held fuel t cs = some x) (hx : Light P t x.1) : ∃ A n c xs, cs = [.slice A n c] ∧ Sl w k A n c xs := by
  rcases open_ints ht he hc h with ⟨rfl, rfl⟩ | ⟨a, len, cap, zs, rfl, _, hl, hm, hz, rfl, hcell, hw⟩
  · exact ⟨none, 0, 0, [], rfl, ⟨rfl, by omega, by simp, fun h => absurd h (by omega)⟩, by omega, fun _ => rfl, by omega, fun h => absurd h (by omega)⟩
  · simp only [if_true] at hz
    have hy : (cap) * P.bytesOf e ≤ reachBytes := by
      have := List.all_eq_true.1 hx ((((zs.take len).length + (zs.drop len).length)) * P.bytesOf e) (by simp [DataW.weights, ht, lits])
      simp only [List.length_take, List.length_drop, hz, decide_eq_true_eq] at this
      rwa [show min len cap + (cap - len) = cap by omega] at this
    have hy' : cap * P.bytesOf e ≤ 140737488351232 := hy
    obtain ⟨u, c⟩ := rd_of_row (w := w) (k := k) (a := some a) (len := len) (cap := cap) (zs := zs) hb hy' (.inr ⟨a, rfl, hl, hm, hz, hcell, hw⟩)
    refine ⟨some a, len, cap, _, rfl, u, c, fun h => (by cases h), Nat.le_trans (Nat.le_mul_of_pos_right _ hb) hy', fun h0 => ?_⟩
    have h0' := hcell 0 (by omega)
    obtain ⟨b, off, sp⟩ := a
    have hs : sp = none := by simpa [Addr.add] using World.cell?_spot h0'
    exact ⟨b, off, by rw [hs]⟩
/-- A value that is one row of cells. -/
theorem okWide_agg {r : Reach} {b0 : Nat} {v : Value} (hu : (∃ fs, P.underlying t = some (.struct fs)) ∨ ∃ k f, P.underlying t = some (.array k f)) (h : Value.okWide P w r b0 t v) : ∃ cs, v = .agg cs ∧ cs.size = P.cellsOf t := by
  rcases hu with ⟨fs, hu⟩ | ⟨k, f, hu⟩ <;>
  · simp only [Value.okWide, hu] at h
    obtain ⟨cs, h1, h2, _⟩ := h
    exact ⟨cs, h1, h2⟩
end
end Go.Proofs.Ytadpgodmkodgdaa
