/- A table of guides: Tick. -/
import Derived.Test.YtlmlklaleooliaaGLen
namespace Go.Proofs.Ytlmlklaleooliaa
open Go.RowKit
set_option linter.unusedSimpArgs false
set_option linter.unusedVariables false

/-- A tick has come by the first places. -/
def tk (a : List Gd) (k : Nat) : List Gd := (a.take k).map tickI ++ a.drop k
theorem tk_zero (a : List Gd) : tk a 0 = a := by simp [tk]
theorem tk_all (a : List Gd) (k : Nat) (h : a.length = k) : tk a k = a.map tickI := by
  subst h
  simp [tk]
theorem tk_at {a : List Gd} {k : Nat} {e : Gd} (h : a[k]? = some e) : (tk a k)[k]? = some e := by
  have hl : k < a.length := (List.getElem?_eq_some_iff.1 h).1
  rw [tk, List.getElem?_append_right (by simp; omega)]
  rw [List.length_map, List.length_take, Nat.min_eq_left (by omega), Nat.sub_self, List.getElem?_drop]
  simpa using h
theorem tk_succ {a : List Gd} {k : Nat} {e : Gd} (h : a[k]? = some e) : (tk a k).set k (tickI e) = tk a (k + 1) := by
  have hl : k < a.length := (List.getElem?_eq_some_iff.1 h).1
  have he : a[k] = e := (List.getElem?_eq_some_iff.1 h).2
  rw [tk, List.set_append, if_neg (by simp; omega)]
  rw [List.length_map, List.length_take, Nat.min_eq_left (by omega), Nat.sub_self, List.drop_eq_getElem_cons hl, List.set_cons_zero, tk]
  have : a.take (k + 1) = a.take k ++ [e] := by rw [List.take_add_one, h]; rfl
  rw [this]
  simp
theorem slice_place (T k : Nat) (h : k < 8) (W : World) : (Instr.sliceAt 31 (.pointer (some ⟨T, 0, none⟩)) (some (.int .i64 (k : Int))) (some (.int .i64 ((k : Int) + 1))) none).run Try.prog W = .ok (.slice (some ⟨T, k * 18, none⟩) 1 (8 - k)) W := by
  rcases (show k = 0 ∨ k = 1 ∨ k = 2 ∨ k = 3 ∨ k = 4 ∨ k = 5 ∨ k = 6 ∨ k = 7 by omega) with rfl | rfl | rfl | rfl | rfl | rfl | rfl | rfl <;> kernel_rfl
theorem zero_gd (W : World) : (zeroValue 30).run Try.prog W = .ok (.agg (gdC zGd).toArray) W := by kernel_rfl

theorem exec_slice {P : Program} {o : Oper} {a : Act} {w w' : World} {v : Value} {t : TypeId} {x : Operand} {lo hi mx : Option Operand} (ho : o.op = .slice t x lo hi mx)
    (h : (Instr.sliceAt t (a.eval x) (lo.map a.eval) (hi.map a.eval) (mx.map a.eval)).run P w = .ok v w') : (execOp a.eval o).run P w = .ok (.value v) w' := by
  unfold execOp
  simp only [ho, Sem.run_bind, Sem.run_pure, h, Result.andThen_ok]
set_option maxRecDepth 100000 in
set_option maxHeartbeats 4000000 in
theorem tick_tab (T : Nat) (a : List Gd) (w : World) (hT : TabAt w T a) (hok : TabOk a) :
    Calls Try.prog 8 #[.pointer (some ⟨T, 0, none⟩)] w fun e w' => e = .returned (.tuple #[]) ∧ TabAt w' T (a.map tickI) ∧ Keeps (· = T) w w' := by
  have HT := Lib.hid hT
  have HOK := Lib.hid hok
  have HAL := Lib.hid hT.len
  clear hT hok
  go_enter Try.func8, Try.ntmps8
  go_wp2_with fail
  refine (there_yes HT.out).mono ?_; rintro e w1 ⟨rfl, rfl⟩
  go_wp2_with fail
  go_loopw [6] (fun i wr => ∃ k : Nat, k ≤ 8 ∧ i = .int .i64 k ∧ TabAt wr T (tk a k) ∧ Keeps (· = T) w wr) (fun i _ => 8 - (intOf i).toNat)
  case atStart => exact ⟨0, Nat.zero_le _, rfl, by rw [tk_zero]; exact HT.out, Keeps.refl _ _⟩
  case round =>
    obtain ⟨k, hk, rfl, hTk, hK⟩ := hrel
    by_cases hlt : k < 8
    · obtain ⟨e, he⟩ : ∃ e, a[k]? = some e := ⟨_, List.getElem?_eq_getElem (by rw [HAL.out]; exact hlt)⟩
      have hem := List.mem_of_getElem? he
      have hel := HT.out.tags e hem
      have hnat := HOK.out e hem
      have hat := tk_at he
      have hc : wr.cell? ⟨T, k * 18 + 17, none⟩ = some (.int .u32 e.ticks) := by
        refine hTk.row' hat rfl 17 _ ?_
        rw [gdC, List.getElem?_append_right (by simp [hel])]; simp [hel]
      have hfz : wr.frozen? ⟨T, k * 18 + 17, none⟩ = false := hTk.blk.free _
      have HS := Lib.hid (tk_succ he)
      have HTK := Lib.hid hTk
      have HK := Lib.hid hK
      have HAT := Lib.hid hat
      have i0 : (0 : Int) ≤ (k : Int) := by omega
      have i1 : (k : Int) < 8 := by omega
      have hadd : IntKind.i64.wrap ((k : Int) + 1) = (k : Int) + 1 := IntWalk.i64_in _ (by omega)
      by_cases h0 : e.ticks = 0
      · have HS1 : Hid (tk a (k + 1) = tk a k) := Lib.hid (by
          rw [← HS.out, show tickI e = e by simp [tickI, h0]]
          obtain ⟨hl, he2⟩ := List.getElem?_eq_some_iff.1 hat
          rw [← he2]
          exact List.set_getElem_self hl)
        rw [h0] at hc
        clear hTk hK hat hel hem he hnat h0
        go_wp2_with fail
        go_roundw
        case rel => exact ⟨k + 1, by omega, by go_num, by rw [HS1.out]; exact HTK.out, HK.out⟩
        case measure => simp [intOf]; omega
      · by_cases h1 : e.ticks = 1
        · have hcl : ∀ ty, (Builtin.clear_ #[68] ty #[.slice (some ⟨T, k * 18, none⟩) 1 (8 - k)]).run Try.prog wr = .ok (.tuple #[]) (wr.setCells T (k * 18) (gdC zGd)) := fun ty =>
            run_clear_one wr 68 30 ty (.agg (gdC zGd).toArray) Try.underlying68 zero_gd (by simpa [Value.cells] using gdC_one zGd) T (k * 18) (8 - k) (hTk.there hlt rfl (by simp [Value.cells, gdC, zGd]))
          have hsl := fun W => slice_place T k hlt W
          have HTF : Hid (TabAt (wr.setCells T (k * 18) (gdC zGd)) T (tk a (k + 1))) := Lib.hid (by
            have := hTk.put (e' := zGd) (o := k * 18) hat (by rfl) rfl
            rw [show zGd = tickI e by simp [tickI, h1, zGd], HS.out] at this
            rwa [show tickI e = zGd by simp [tickI, h1, zGd]] at this)
          have HKF : Hid (Keeps (· = T) w (wr.setCells T (k * 18) (gdC zGd))) := Lib.hid (hK.trans (Keeps.setCells _ _ _))
          rw [h1] at hc
          obtain ⟨Z, hZ⟩ : ∃ Z, gdC zGd = Z := ⟨_, rfl⟩
          rw [hZ] at hcl HTF HKF
          have HSL := Lib.hid hsl
          clear hTk hK hat hel hem he hnat h0 h1 hZ hsl
          go_wp2_with (first
            | (refine wpList_value (o := ⟨some 38, .slice 31 _ _ _ _, _, _, _, _⟩) (v := .slice (some ⟨T, k * 18, none⟩) 1 (8 - k)) (w' := wr) rfl (exec_slice rfl (HSL.out wr)) ?_)
            | (simp only [hcl]))
          go_roundw
          case rel => exact ⟨k + 1, by omega, by go_num, HTF.out, HKF.out⟩
          case measure => simp [intOf]; omega
        · obtain ⟨t, ht⟩ : ∃ t, e.ticks = t := ⟨_, rfl⟩
          rw [ht] at hc h0 h1 hnat
          have hti : tickI e = ⟨e.tag, e.spot, t - 1⟩ := by simp [tickI, ht, h0, h1]
          have hsub : IntKind.u32.wrap (t - 1) = t - 1 := IntWalk.u32_in _ (by omega)
          have HTF : Hid (TabAt (wr.drew.setCell ⟨T, k * 18 + 17, none⟩ (.int .u32 (t - 1))) T (tk a (k + 1))) := Lib.hid (by
            have hd := hTk.drew
            have := hd.ticked hat (t - 1) (o := k * 18 + 17) rfl
            rwa [← hti, HS.out] at this)
          have HKF : Hid (Keeps (· = T) w (wr.drew.setCell ⟨T, k * 18 + 17, none⟩ (.int .u32 (t - 1)))) := Lib.hid (hK.drew.setCell (.inl rfl) _)
          clear hTk hK hat hel hem he hnat ht hti
          go_wp2_with fail
          go_region_with (fail)
          go_wp2_with fail
          go_roundw
          case rel => exact ⟨k + 1, by omega, by go_num, HTF.out, HKF.out⟩
          case measure => simp [intOf]; omega
    · obtain rfl : k = 8 := by omega
      rw [tk_all a 8 HAL.out] at hTk
      have HTK := Lib.hid hTk
      have HK := Lib.hid hK
      clear hTk hK
      go_wp2_with fail
      go_end0
      exact ⟨rfl, HTK.out, HK.out⟩
end Go.Proofs.Ytlmlklaleooliaa
