/- A function's text, from a region on: long walks in pieces; The walk over SHA-256: the two statements of a block's later numbers that call 'down'. -/
import Derived.Test.YtadpgodmkodgdaaBase
import Derived.Deep.Cut
import Derived.Test.YtadpgodmkodgdaaXRGuidesRoom6
namespace Go.Proofs.Ytadpgodmkodgdaa
open Go.RowKit
def headIs (n : Nat) : Code → Bool
  | .region k _ _ => k == n
  | _ => false
/-- What begins with region n. -/
def atRegion (n : Nat) : Code → Option Code
  | .seq a b => if headIs n a then some (.seq a b) else match atRegion n a with
    | some c => some c
    | none => atRegion n b
  | .block _ c => atRegion n c
  | .scope c => atRegion n c
  | .loop c => atRegion n c
  | .cond _ a b => match atRegion n a with
    | some c => some c
    | none => atRegion n b
  | c => if headIs n c then some c else none
def seqA : Code → Code
  | .seq a _ => a
  | c => c
def seqB : Code → Code
  | .seq _ b => b
  | _ => .skip
end Go.Proofs.Ytadpgodmkodgdaa

namespace Go.Proofs.Ytadpgodmkodgdaa
open Go.RowKit
set_option linter.unusedSimpArgs false
set_option linter.unusedVariables false

noncomputable def nh6 : Code := (Try.f80.body.bind (atRegion 6)).getD .skip
set_option maxRecDepth 100000 in
set_option maxHeartbeats 400000 in
theorem next_r6 {K : Act → World → Prop} {POST : Exit → Act → World → Prop} {u0 u1 u2 u3 u5 u6 u8 u9 u10 u11 u12 u13 u14 u15 u16 u17 u18 u19 u20 u21 u22 u23 u24 u25 u26 u27 u28 u29 u30 u31 u32 u33 u34 u35 u36 u37 u38 u39 u40 u41 u42 u43 u44 u45 u46 u47 u48 u49 u50 u51 u52 u53 u54 u55 u56 u57 u58 u59 u60 u61 u62 u63 u64 u65 u66 u67 u68 u69 u70 u71 u72 u73 u74 : Value} {N a : Nat} {y x : Int} {l : List Int} {W : World}
    (hN : Blk W N 151 (l.map (Value.int .u32))) (hx : l[a]? = some x) (hy : U32 y)
    (hK : ∀ v38 v39 v40 v41 v42 v43 v44 v45 v46 v47 v48, ∀ W', Blk W' N 151 ((l.set a (IntKind.u32.wrap (x + bits .xor .u32 (downX y [7, 18]) (y / 8)))).map (Value.int .u32)) → Keeps (· = N) W W' → K ⟨(u0 :: u1 :: u2 :: u3 :: (.pointer (some ⟨N, a, none⟩)) :: u5 :: u6 :: (.int .u32 y) :: u8 :: u9 :: u10 :: u11 :: u12 :: u13 :: u14 :: u15 :: u16 :: u17 :: u18 :: u19 :: u20 :: u21 :: u22 :: u23 :: u24 :: u25 :: u26 :: u27 :: u28 :: u29 :: u30 :: u31 :: u32 :: u33 :: u34 :: u35 :: u36 :: u37 :: v38 :: v39 :: v40 :: v41 :: v42 :: v43 :: v44 :: v45 :: v46 :: v47 :: v48 :: u49 :: u50 :: u51 :: u52 :: u53 :: u54 :: u55 :: u56 :: u57 :: u58 :: u59 :: u60 :: u61 :: u62 :: u63 :: u64 :: u65 :: u66 :: u67 :: u68 :: u69 :: u70 :: u71 :: u72 :: u73 :: u74 :: []).toArray, []⟩ W') :
    Code.wp Try.prog (seqA nh6) (Exit.then K POST) ⟨(u0 :: u1 :: u2 :: u3 :: (.pointer (some ⟨N, a, none⟩)) :: u5 :: u6 :: (.int .u32 y) :: u8 :: u9 :: u10 :: u11 :: u12 :: u13 :: u14 :: u15 :: u16 :: u17 :: u18 :: u19 :: u20 :: u21 :: u22 :: u23 :: u24 :: u25 :: u26 :: u27 :: u28 :: u29 :: u30 :: u31 :: u32 :: u33 :: u34 :: u35 :: u36 :: u37 :: u38 :: u39 :: u40 :: u41 :: u42 :: u43 :: u44 :: u45 :: u46 :: u47 :: u48 :: u49 :: u50 :: u51 :: u52 :: u53 :: u54 :: u55 :: u56 :: u57 :: u58 :: u59 :: u60 :: u61 :: u62 :: u63 :: u64 :: u65 :: u66 :: u67 :: u68 :: u69 :: u70 :: u71 :: u72 :: u73 :: u74 :: []).toArray, []⟩ W := by
  conv => arg 2; whnf
  have d1 : W.drew.cell? ⟨N, a, none⟩ = some (.int .u32 x) := (hN.drew.cell a).trans (by rw [List.getElem?_map, hx]; rfl)
  have HN := Lib.hid hN
  have HX := Lib.hid hx
  have HKK := Lib.hid hK
  have HY := Lib.hid hy
  clear hN hx hK hy
  have d2 : (W.alloc (Obj.cells #[Value.int IntKind.i64 7, Value.int IntKind.i64 18] 3)).cell? ⟨N, a, none⟩ = some (.int .u32 x) := ((HN.out.alloc _).cell a).trans (by rw [List.getElem?_map, HX.out]; rfl)
  have d0 : W.cell? ⟨N, a, none⟩ = some (.int .u32 x) := (HN.out.cell a).trans (by rw [List.getElem?_map, HX.out]; rfl)
  have HR := Lib.hid (rd_i64 (xs := [7, 18]) (Blk.new W 3 [.int .i64 7, .int .i64 18]).drew (by decide) rfl (by decide))
  have hb : Keeps (fun _ => False) W (W.alloc (Obj.cells #[Value.int IntKind.i64 7, Value.int IntKind.i64 18] 3)).drew := ((Keeps.refl _ _).alloc _).drew
  have HB := Lib.hid hb
  clear hb
  refine wp_region_noPanic ?_
  go_region_with ((refine (down_any y _ 2 2 [7, 18] _ HY.out HR.out (by decide)).mono ?_); rintro e W4 ⟨rfl, hD4⟩; have hk := HB.out.trans (hD4.keeps (fun _ => False)); have HN4 : Hid (Blk W4 N 151 (l.map (Value.int .u32))) := Lib.hid (HN.out.keep hk (fun h => h)); have HK4 : Hid (Keeps (fun _ => False) W W4) := Lib.hid hk; have d3 : W4.cell? ⟨N, a, none⟩ = some (.int .u32 x) := (HN4.out.cell a).trans (by rw [List.getElem?_map, HX.out]; rfl); have hf3 := HN4.out.free a; clear hk hD4)
  all_goals
    refine NoPanic.normal ?_
    exact HKK.out _ _ _ _ _ _ _ _ _ _ _ _ (by rw [List.map_set]; exact HN4.out.put a _) ((HK4.out.mono (fun _ h => h.elim)).setCell (M := fun i => i = N) (.inl rfl) _)
noncomputable def nh7 : Code := (Try.f80.body.bind (atRegion 7)).getD .skip
set_option maxRecDepth 100000 in
set_option maxHeartbeats 400000 in
theorem next_r7 {K : Act → World → Prop} {POST : Exit → Act → World → Prop} {u0 u1 u2 u3 u5 u6 u7 u9 u10 u11 u12 u13 u14 u15 u16 u17 u18 u19 u20 u21 u22 u23 u24 u25 u26 u27 u28 u29 u30 u31 u32 u33 u34 u35 u36 u37 u38 u39 u40 u41 u42 u43 u44 u45 u46 u47 u48 u49 u50 u51 u52 u53 u54 u55 u56 u57 u58 u59 u60 u61 u62 u63 u64 u65 u66 u67 u68 u69 u70 u71 u72 u73 u74 : Value} {N a : Nat} {y x : Int} {l : List Int} {W : World}
    (hN : Blk W N 151 (l.map (Value.int .u32))) (hx : l[a]? = some x) (hy : U32 y)
    (hK : ∀ v49 v50 v51 v52 v53 v54 v55 v56 v57 v58 v59, ∀ W', Blk W' N 151 ((l.set a (IntKind.u32.wrap (x + bits .xor .u32 (downX y [17, 19]) (y / 1024)))).map (Value.int .u32)) → Keeps (· = N) W W' → K ⟨(u0 :: u1 :: u2 :: u3 :: (.pointer (some ⟨N, a, none⟩)) :: u5 :: u6 :: u7 :: (.int .u32 y) :: u9 :: u10 :: u11 :: u12 :: u13 :: u14 :: u15 :: u16 :: u17 :: u18 :: u19 :: u20 :: u21 :: u22 :: u23 :: u24 :: u25 :: u26 :: u27 :: u28 :: u29 :: u30 :: u31 :: u32 :: u33 :: u34 :: u35 :: u36 :: u37 :: u38 :: u39 :: u40 :: u41 :: u42 :: u43 :: u44 :: u45 :: u46 :: u47 :: u48 :: v49 :: v50 :: v51 :: v52 :: v53 :: v54 :: v55 :: v56 :: v57 :: v58 :: v59 :: u60 :: u61 :: u62 :: u63 :: u64 :: u65 :: u66 :: u67 :: u68 :: u69 :: u70 :: u71 :: u72 :: u73 :: u74 :: []).toArray, []⟩ W') :
    Code.wp Try.prog (seqA nh7) (Exit.then K POST) ⟨(u0 :: u1 :: u2 :: u3 :: (.pointer (some ⟨N, a, none⟩)) :: u5 :: u6 :: u7 :: (.int .u32 y) :: u9 :: u10 :: u11 :: u12 :: u13 :: u14 :: u15 :: u16 :: u17 :: u18 :: u19 :: u20 :: u21 :: u22 :: u23 :: u24 :: u25 :: u26 :: u27 :: u28 :: u29 :: u30 :: u31 :: u32 :: u33 :: u34 :: u35 :: u36 :: u37 :: u38 :: u39 :: u40 :: u41 :: u42 :: u43 :: u44 :: u45 :: u46 :: u47 :: u48 :: u49 :: u50 :: u51 :: u52 :: u53 :: u54 :: u55 :: u56 :: u57 :: u58 :: u59 :: u60 :: u61 :: u62 :: u63 :: u64 :: u65 :: u66 :: u67 :: u68 :: u69 :: u70 :: u71 :: u72 :: u73 :: u74 :: []).toArray, []⟩ W := by
  conv => arg 2; whnf
  have d1 : W.drew.cell? ⟨N, a, none⟩ = some (.int .u32 x) := (hN.drew.cell a).trans (by rw [List.getElem?_map, hx]; rfl)
  have HN := Lib.hid hN
  have HX := Lib.hid hx
  have HKK := Lib.hid hK
  have HY := Lib.hid hy
  clear hN hx hK hy
  have d2 : (W.alloc (Obj.cells #[Value.int IntKind.i64 17, Value.int IntKind.i64 19] 3)).cell? ⟨N, a, none⟩ = some (.int .u32 x) := ((HN.out.alloc _).cell a).trans (by rw [List.getElem?_map, HX.out]; rfl)
  have d0 : W.cell? ⟨N, a, none⟩ = some (.int .u32 x) := (HN.out.cell a).trans (by rw [List.getElem?_map, HX.out]; rfl)
  have HR := Lib.hid (rd_i64 (xs := [17, 19]) (Blk.new W 3 [.int .i64 17, .int .i64 19]).drew (by decide) rfl (by decide))
  have hb : Keeps (fun _ => False) W (W.alloc (Obj.cells #[Value.int IntKind.i64 17, Value.int IntKind.i64 19] 3)).drew := ((Keeps.refl _ _).alloc _).drew
  have HB := Lib.hid hb
  clear hb
  refine wp_region_noPanic ?_
  go_region_with ((refine (down_any y _ 2 2 [17, 19] _ HY.out HR.out (by decide)).mono ?_); rintro e W4 ⟨rfl, hD4⟩; have hk := HB.out.trans (hD4.keeps (fun _ => False)); have HN4 : Hid (Blk W4 N 151 (l.map (Value.int .u32))) := Lib.hid (HN.out.keep hk (fun h => h)); have HK4 : Hid (Keeps (fun _ => False) W W4) := Lib.hid hk; have d3 : W4.cell? ⟨N, a, none⟩ = some (.int .u32 x) := (HN4.out.cell a).trans (by rw [List.getElem?_map, HX.out]; rfl); have hf3 := HN4.out.free a; clear hk hD4)
  all_goals
    refine NoPanic.normal ?_
    exact HKK.out _ _ _ _ _ _ _ _ _ _ _ _ (by rw [List.map_set]; exact HN4.out.put a _) ((HK4.out.mono (fun _ h => h.elim)).setCell (M := fun i => i = N) (.inl rfl) _)
noncomputable def nh8 : Code := (Try.f80.body.bind (atRegion 8)).getD .skip
set_option maxRecDepth 100000 in
set_option maxHeartbeats 400000 in
theorem next_r8 {K : Act → World → Prop} {POST : Exit → Act → World → Prop} {u2 u3 u5 u6 u7 u8 u9 u10 u11 u12 u13 u14 u15 u16 u17 u18 u19 u20 u21 u22 u23 u24 u25 u26 u27 u28 u29 u30 u31 u32 u33 u34 u35 u36 u37 u38 u39 u40 u41 u42 u43 u44 u45 u46 u47 u48 u49 u50 u51 u52 u53 u54 u55 u56 u57 u58 u59 u60 u61 u62 u63 u64 u65 u66 u67 u68 u69 u70 u71 u72 u73 u74 : Value} {N T a t d : Nat} {y x : Int} {l : List Int} {W : World}
    (hN : Blk W N 151 (l.map (Value.int .u32))) (hT : Blk W T 3 [.int .i64 (t : Int)]) (hx : l[a]? = some x) (hy : l[d]? = some y) (hd : (t + 9) % 16 = d) (ht : t < 1000)
    (hK : ∀ v60 v61 v62 v63 v64 v65 v66 v67 v68 v69, ∀ W', Blk W' N 151 ((l.set a (IntKind.u32.wrap (x + y))).map (Value.int .u32)) → Keeps (· = N) W W' → K ⟨((.pointer (some ⟨N, 0, none⟩)) :: (.pointer (some ⟨T, 0, none⟩)) :: u2 :: u3 :: (.pointer (some ⟨N, a, none⟩)) :: u5 :: u6 :: u7 :: u8 :: u9 :: u10 :: u11 :: u12 :: u13 :: u14 :: u15 :: u16 :: u17 :: u18 :: u19 :: u20 :: u21 :: u22 :: u23 :: u24 :: u25 :: u26 :: u27 :: u28 :: u29 :: u30 :: u31 :: u32 :: u33 :: u34 :: u35 :: u36 :: u37 :: u38 :: u39 :: u40 :: u41 :: u42 :: u43 :: u44 :: u45 :: u46 :: u47 :: u48 :: u49 :: u50 :: u51 :: u52 :: u53 :: u54 :: u55 :: u56 :: u57 :: u58 :: u59 :: v60 :: v61 :: v62 :: v63 :: v64 :: v65 :: v66 :: v67 :: v68 :: v69 :: u70 :: u71 :: u72 :: u73 :: u74 :: []).toArray, []⟩ W') :
    Code.wp Try.prog (seqA nh8) (Exit.then K POST) ⟨((.pointer (some ⟨N, 0, none⟩)) :: (.pointer (some ⟨T, 0, none⟩)) :: u2 :: u3 :: (.pointer (some ⟨N, a, none⟩)) :: u5 :: u6 :: u7 :: u8 :: u9 :: u10 :: u11 :: u12 :: u13 :: u14 :: u15 :: u16 :: u17 :: u18 :: u19 :: u20 :: u21 :: u22 :: u23 :: u24 :: u25 :: u26 :: u27 :: u28 :: u29 :: u30 :: u31 :: u32 :: u33 :: u34 :: u35 :: u36 :: u37 :: u38 :: u39 :: u40 :: u41 :: u42 :: u43 :: u44 :: u45 :: u46 :: u47 :: u48 :: u49 :: u50 :: u51 :: u52 :: u53 :: u54 :: u55 :: u56 :: u57 :: u58 :: u59 :: u60 :: u61 :: u62 :: u63 :: u64 :: u65 :: u66 :: u67 :: u68 :: u69 :: u70 :: u71 :: u72 :: u73 :: u74 :: []).toArray, []⟩ W := by
  conv => arg 2; whnf
  have d1 : W.cell? ⟨N, a, none⟩ = some (.int .u32 x) := (hN.cell a).trans (by rw [List.getElem?_map, hx]; rfl)
  have d2 : W.cell? ⟨N, d, none⟩ = some (.int .u32 y) := (hN.cell d).trans (by rw [List.getElem?_map, hy]; rfl)
  have d3 : W.cell? ⟨T, 0, none⟩ = some (.int .i64 (t : Int)) := hT.cell 0
  have hf := hN.free a
  have hw9 : IntKind.i64.wrap ((t : Int) + 9) = (t : Int) + 9 := IntWalk.i64_in _ (by omega)
  have m9 : Int.tmod ((t : Int) + 9) 16 = (d : Int) := by rw [Int.tmod_eq_emod_of_nonneg (by omega)]; omega
  have f1 : (d : Int) < 16 := by omega
  have f0 : (0 : Int) ≤ (d : Int) := by omega
  have HN := Lib.hid hN
  have HT := Lib.hid hT
  have HX := Lib.hid hx
  have HKK := Lib.hid hK
  have HY := Lib.hid hy
  clear hN hT hx hK hy hd ht
  refine wp_region_noPanic ?_
  go_region_with fail
  all_goals
    refine NoPanic.normal ?_
    exact HKK.out _ _ _ _ _ _ _ _ _ _ _ (by rw [List.map_set]; exact HN.out.drew.put a _) ((Keeps.refl _ W).drew.setCell (M := fun i => i = N) (.inl rfl) _)
end Go.Proofs.Ytadpgodmkodgdaa
