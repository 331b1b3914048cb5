/- The law HostsNone: its parameters opened. -/
import Derived.Test.YtjkcagfacegjkaaGreatHLNone
namespace Go.Proofs.YtjkcagfacegjkaaGreat
open Go.RowKit Go.ChangeShapes Go.WideShapes
set_option linter.unusedSimpArgs false
set_option linter.unusedVariables false

theorem ten_parts (cs : List Value) (h : cs.length = 10) : (cs.drop 0).take 1 ++ ((cs.drop 1).take 1 ++ ((cs.drop 2).take 1 ++ ((cs.drop 3).take 1 ++ ((cs.drop 4).take 1 ++ ((cs.drop 5).take 1 ++ ((cs.drop 6).take 1 ++ (cs.drop 7).take 3)))))) = cs := by
  rcases cs with _ | ⟨a, _ | ⟨b, _ | ⟨c, _ | ⟨d, _ | ⟨e, _ | ⟨f, _ | ⟨g, cs⟩⟩⟩⟩⟩⟩⟩
  · simp at h
  · simp at h
  · simp at h
  · simp at h
  · simp at h
  · simp at h
  · simp at h
  · simp only [List.drop_zero, List.take_succ_cons, List.take_zero, List.drop_succ_cons, List.cons_append, List.nil_append]
    rw [List.take_of_length_le (by simp at h; omega)]
theorem three_parts (cs : List Value) (h : cs.length = 3) : (cs.drop 0).take 1 ++ ((cs.drop 1).take 1 ++ (cs.drop 2).take 1) = cs := by
  rcases cs with _ | ⟨a, _ | ⟨b, cs⟩⟩
  · simp at h
  · simp at h
  · simp only [List.drop_zero, List.take_succ_cons, List.take_zero, List.drop_succ_cons, List.cons_append, List.nil_append]
    rw [List.take_of_length_le (by simp at h; omega)]
set_option maxRecDepth 100000 in
theorem hostsNone_walk {H : Type} {enc : TypeId × Value → H} {base : Nat} {d0 d1 : DataW H} {p0 p1 : List MemPlace} (v0 v1 : Value) (w : World)
    (o0 : Value.okWide Tryz.prog w .any base 30 v0) (k0 : DataW.Trod enc Tryz.prog w 0 (fun _ => true) true 30 v0 d0 p0) (z0 : (d0.weights Tryz.prog 30).all (· ≤ reachBytes) = true)
    (o1 : Value.okWide Tryz.prog w .any base 32 v1) (k1 : DataW.Trod enc Tryz.prog w 0 (fun _ => true) true 32 v1 d1 p1) (z1 : (d1.weights Tryz.prog 32).all (· ≤ reachBytes) = true) :
    Calls Tryz.prog 3 #[v0, v1] w fun e w' => e = .returned (.bool true) ∧ Below w.heap.size w w' := by
  obtain ⟨cs1, rfl, hs1⟩ := okWide_agg (.inr ⟨_, _, Tryz.underlying32⟩) o1
  obtain ⟨f1, hf1⟩ := k1
  obtain ⟨tl, et, htl, htw⟩ := open_array_ints Tryz.underlying32 Tryz.underlying5 (by kernel_rfl) (by kernel_rfl) hf1
  obtain ⟨cs1⟩ := cs1
  simp only [Value.cells] at et
  subst et
  obtain ⟨cs0, rfl, hs0⟩ := okWide_agg (.inl ⟨_, Tryz.underlying30⟩) o0
  obtain ⟨f0, hf0⟩ := k0
  obtain ⟨hl, m, hp⟩ := open_struct Tryz.underlying30 hf0
  obtain ⟨y0, hy0, L0⟩ := hp 0 _ rfl
  obtain ⟨y1, hy1, L1⟩ := hp 1 _ rfl
  obtain ⟨y2, hy2, L2⟩ := hp 2 _ rfl
  obtain ⟨y3, hy3, L3⟩ := hp 3 _ rfl
  obtain ⟨y4, hy4, L4⟩ := hp 4 _ rfl
  obtain ⟨y5, hy5, L5⟩ := hp 5 _ rfl
  obtain ⟨y6, hy6, L6⟩ := hp 6 _ rfl
  obtain ⟨y7, hy7, L7⟩ := hp 7 _ rfl
  simp only at hy0 hy1 hy2 hy3 hy4 hy5 hy6 hy7 L5 L6 L7
  obtain ⟨k, e0, _⟩ := cell_int Tryz.underlying5 hy0
  obtain ⟨at_, e1, _⟩ := cell_int Tryz.underlying22 hy1
  obtain ⟨fr, e2, _⟩ := cell_int Tryz.underlying5 hy2
  obtain ⟨to, e3, _⟩ := cell_int Tryz.underlying5 hy3
  obtain ⟨many, e4, _⟩ := cell_int Tryz.underlying5 hy4
  obtain ⟨AB, nB, cB, xsB, e5, _⟩ := open_sl Tryz.underlying23 Tryz.underlying5 (by kernel_rfl) (by rw [show Tryz.prog.bytesOf 5 = 1 from by kernel_rfl]; omega) hy5 (L5 z0)
  obtain ⟨AS, nS, cS, xsS, e6, _⟩ := open_sl Tryz.underlying24 Tryz.underlying26 (by kernel_rfl) (by rw [show Tryz.prog.bytesOf 26 = 4 from by kernel_rfl]; omega) hy6 (L6 z0)
  obtain ⟨hl7, m7, hp7⟩ := open_struct Tryz.underlying28 hy7
  obtain ⟨x0, hx0, M0⟩ := hp7 0 _ rfl
  obtain ⟨x1, hx1, M1⟩ := hp7 1 _ rfl
  obtain ⟨x2, hx2, M2⟩ := hp7 2 _ rfl
  simp only at hx0 hx1 hx2 M2
  obtain ⟨f, g0, _⟩ := cell_int Tryz.underlying26 hx0
  obtain ⟨t, g1, _⟩ := cell_int Tryz.underlying26 hx1
  obtain ⟨AF, nF, cF, xsF, g2, _⟩ := open_sl Tryz.underlying23 Tryz.underlying5 (by kernel_rfl) (by rw [show Tryz.prog.bytesOf 5 = 1 from by kernel_rfl]; omega) hx2 (M2 (L7 z0))
  obtain ⟨cs0⟩ := cs0
  simp only [Value.cells] at hl e0 e1 e2 e3 e4 e5 e6 hl7 g0 g1 g2
  rw [show Tryz.prog.cellsOf 30 = 10 by kernel_rfl] at hl
  rw [show Tryz.prog.cellsOf 28 = 3 by kernel_rfl] at hl7 g0 g1 g2
  rw [show Tryz.prog.cellsOf 5 = 1 by kernel_rfl] at e0 e2 e3 e4
  rw [show Tryz.prog.cellsOf 22 = 1 by kernel_rfl] at e1
  rw [show Tryz.prog.cellsOf 23 = 1 by kernel_rfl] at e5 g2
  rw [show Tryz.prog.cellsOf 24 = 1 by kernel_rfl] at e6
  rw [show Tryz.prog.cellsOf 26 = 1 by kernel_rfl] at g0 g1
  have h3 := three_parts _ hl7
  rw [g0, g1, g2] at h3
  have e := ten_parts cs0 hl
  rw [e0, e1, e2, e3, e4, e5, e6, ← h3] at e
  have hcs : cs0 = [.int .u8 k, .int .u16 at_, .int .u8 fr, .int .u8 to, .int .u8 many, .slice AB nB cB, .slice AS nS cS, .int .u32 f, .int .u32 t, .slice AF nF cF] := e.symm
  rw [hcs]
  exact none_at k at_ fr to many AB nB cB AS nS cS f t AF nF cF (tl.map (Value.int .u8)) w (by simpa using htl)
end Go.Proofs.YtjkcagfacegjkaaGreat
