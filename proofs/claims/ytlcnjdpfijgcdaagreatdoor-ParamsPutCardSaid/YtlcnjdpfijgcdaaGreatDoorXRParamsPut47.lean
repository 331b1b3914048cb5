/- The walk over the law ParamsPut: pieces and a body that are not too great; The law ParamsPut: its parameters opened. -/
import Derived.Test.YtlcnjdpfijgcdaaGreatDoorXRParamsPut45
import Derived.Test.YtlcnjdpfijgcdaaGreatDoorXRParamsPut46
namespace Go.Proofs.YtlcnjdpfijgcdaaGreatDoor
open Go.RowKit Go.ChangeShapes Go.WideShapes
set_option linter.unusedSimpArgs false
set_option linter.unusedVariables false

/-- All that ParamsPut made, ahead of its Book. -/
structure PutMade (w : World) (P Y : Nat) (t : Int) (A B : Option Addr) (n c d : Nat) (body : List Int) (ps wl lo : List Piece) (bs fb : List Int) (gx capx : Nat) (cx : List Value) (By : Option Addr) (cby : Nat) (Aa Ab Ac Ad As At Au : Option Addr) (ca cb cc cd cs ct cu : Nat) (cellc cellu : List Value) (W : World) : Prop where
  below : Below w.heap.size w W
  ps_ : Ps W A n ps
  rd_ : Rd W .u8 B body.length body
  pblk : Blk W P 53 [.int .u16 t, .slice B body.length d]
  yblk : Blk W Y 53 [.int .u16 t, .slice By body.length cby]
  x : PsTwin w.heap.size W (some ⟨gx, 0, none⟩) ps capx cx
  y : TwinRow w.heap.size W By body cby
  a : RowG 5 1 w.heap.size W (.slice Aa bs.length ca) bs.length (bs.map (Value.int .u8))
  b : Rd W .u8 Ab bs.length bs
  c_ : PsOwn w.heap.size W (.slice Ac wl.length cc) wl cellc
  d_ : Ps W Ad wl.length wl
  s : RowG 5 1 w.heap.size W (.slice As fb.length cs) fb.length (fb.map (Value.int .u8))
  t_ : Rd W .u8 At fb.length fb
  u : PsOwn w.heap.size W (.slice Au lo.length cu) lo cellu
  apart : ∃ k1 k2 k3 k4 k5, InBl w.heap.size k1 (bodyH cx 0 n) ∧ InBl w.heap.size k1 [⟨some ⟨gx, 0, none⟩, n, capx, none, 0, 0, 0 + n + 1⟩] ∧ InBl k1 k2 [⟨By, body.length, cby, none, 0, 0, 0 + n + 1 + 1⟩] ∧ InBl k2 k3 [⟨Aa, bs.length, ca, none, 0, 0, 0 + n + 1 + 1 + 1⟩] ∧
    InBl k3 k4 (bodyH cellc (0 + n + 1 + 1 + 1) wl.length) ∧ InBl k3 k4 [⟨Ac, wl.length, cc, none, 0, 0, 0 + n + 1 + 1 + 1 + wl.length + 1⟩] ∧ InBl k4 k5 [⟨As, fb.length, cs, none, 0, 0, 0 + n + 1 + 1 + 1 + wl.length + 1 + 1⟩] ∧
    InBl k5 W.heap.size (bodyH cellu (0 + n + 1 + 1 + 1 + wl.length + 1 + 1) lo.length) ∧ InBl k5 W.heap.size [⟨Au, lo.length, cu, none, 0, 0, 0 + n + 1 + 1 + 1 + wl.length + 1 + 1 + lo.length + 1⟩] ∧ w.heap.size ≤ k1 ∧ k1 ≤ k2 ∧ k2 ≤ k3 ∧ k3 ≤ k4 ∧ k4 ≤ k5 ∧ k5 ≤ W.heap.size
theorem TwinRow.lower {base base' : Nat} {w : World} {B : Option Addr} {body : List Int} {c : Nat} (h : TwinRow base w B body c) (hb : base' ≤ base) : TwinRow base' w B body c := by
  obtain ⟨g, h1, h2, h3, h4, h5, h6⟩ := h
  exact ⟨g, h1, h2, h3, Nat.le_trans hb h4, h5, own_lower h6 hb⟩
theorem PsTwin.lower {base base' : Nat} {w : World} {A : Option Addr} {ps : List Piece} {cap : Nat} {cells : List Value} (h : PsTwin base w A ps cap cells) (hb : base' ≤ base) : PsTwin base' w A ps cap cells := by
  obtain ⟨g, h1, h2, h3⟩ := h.at_
  refine ⟨⟨g, h1, Nat.le_trans hb h2, h3⟩, h.capm, own_lower h.row hb, fun j t body hj => ?_, h.unlike⟩
  obtain ⟨B, c, h1, h2, h3⟩ := h.body j t body hj
  exact ⟨B, c, h1, h2, h3.lower hb⟩
section
variable {w : World} {P Y : Nat} {t : Int} {A B : Option Addr} {n c d : Nat} {body : List Int} {ps wl lo : List Piece} {bs fb : List Int} {gx capx : Nat} {cx : List Value} {By : Option Addr} {cby : Nat} {Aa Ab Ac Ad As At Au : Option Addr} {ca cb cc cd cs ct cu : Nat} {cellc cellu : List Value} {W : World}
theorem PutMade.rows (h : PutMade w P Y t A B n c d body ps wl lo bs fb gx capx cx By cby Aa Ab Ac Ad As At Au ca cb cc cd cs ct cu cellc cellu W) (hn : ps.length = n) :
    ∀ x ∈ bodyH cx 0 n ++ [(⟨By, body.length, cby, none, 0, 0, 0 + n + 1 + 1⟩ : Hb)] ++ [⟨Aa, bs.length, ca, none, 0, 0, 0 + n + 1 + 1 + 1⟩] ++ bodyH cellc (0 + n + 1 + 1 + 1) wl.length ++ [⟨As, fb.length, cs, none, 0, 0, 0 + n + 1 + 1 + 1 + wl.length + 1 + 1⟩] ++ bodyH cellu (0 + n + 1 + 1 + 1 + wl.length + 1 + 1) lo.length, ∃ cs, RowIs kByte w.heap.size W x cs := fun x hx => by
  simp only [List.mem_append, List.mem_singleton] at hx
  rcases hx with ((((hx | rfl) | rfl) | hx) | rfl) | hx
  · exact body_rows h.x.own hn x hx
  · exact ⟨_, h.y.row⟩
  · exact ⟨_, h.a⟩
  · exact body_rows h.c_ rfl x hx
  · exact ⟨_, h.s⟩
  · exact body_rows h.u rfl x hx
theorem PutMade.fine (h : PutMade w P Y t A B n c d body ps wl lo bs fb gx capx cx By cby Aa Ab Ac Ad As At Au ca cb cc cd cs ct cu cellc cellu W) (hn : ps.length = n) (hnl : n ≤ 9999) (hwl : wl.length ≤ 16) (hlo : lo.length ≤ n)
    (h1 : ∀ p ∈ ps, p.2.length ≤ 9999) (h2 : ∀ p ∈ wl, p.2.length ≤ 9999) (h3 : ∀ p ∈ lo, p.2.length ≤ 9999) (h4 : body.length ≤ 9999) (h5 : bs.length ≤ 9999) (h6 : fb.length ≤ 9999) :
    Fine (bodyH cx 0 n ++ [(⟨By, body.length, cby, none, 0, 0, 0 + n + 1 + 1⟩ : Hb)] ++ [⟨Aa, bs.length, ca, none, 0, 0, 0 + n + 1 + 1 + 1⟩] ++ bodyH cellc (0 + n + 1 + 1 + 1) wl.length ++ [⟨As, fb.length, cs, none, 0, 0, 0 + n + 1 + 1 + 1 + wl.length + 1 + 1⟩] ++ bodyH cellu (0 + n + 1 + 1 + 1 + wl.length + 1 + 1) lo.length) ∧
    Fine [(⟨some ⟨gx, 0, none⟩, n, capx, none, 0, 0, 0 + n + 1⟩ : Hb), ⟨Ac, wl.length, cc, none, 0, 0, 0 + n + 1 + 1 + 1 + wl.length + 1⟩, ⟨Au, lo.length, cu, none, 0, 0, 0 + n + 1 + 1 + 1 + wl.length + 1 + 1 + lo.length + 1⟩] := by
  obtain ⟨k1, k2, k3, k4, k5, a1, a2, a3, a4, a5, a6, a7, a8, a9, b1, b2, b3, b4, b5, b6⟩ := h.apart
  have f1 : Fine (bodyH cx 0 n) := fine_bodies h.x.own hn (by omega) (fun p hp => by have := h1 p hp; omega)
  have f2 : Fine [(⟨By, body.length, cby, none, 0, 0, 0 + n + 1 + 1⟩ : Hb)] := fine_one ⟨by simp only; omega, by simp only; omega⟩ (by simp only; omega)
  have f3 : Fine [(⟨Aa, bs.length, ca, none, 0, 0, 0 + n + 1 + 1 + 1⟩ : Hb)] := fine_one ⟨by simp only; omega, by simp only; omega⟩ (by simp only; omega)
  have f4 : Fine (bodyH cellc (0 + n + 1 + 1 + 1) wl.length) := fine_bodies h.c_ rfl (by omega) (fun p hp => by have := h2 p hp; omega)
  have f5 : Fine [(⟨As, fb.length, cs, none, 0, 0, 0 + n + 1 + 1 + 1 + wl.length + 1 + 1⟩ : Hb)] := fine_one ⟨by simp only; omega, by simp only; omega⟩ (by simp only; omega)
  have f6 : Fine (bodyH cellu (0 + n + 1 + 1 + 1 + wl.length + 1 + 1) lo.length) := fine_bodies h.u rfl (by omega) (fun p hp => by have := h3 p hp; omega)
  have g1 := a1
  have g2 := g1.app a3 b1 (Nat.le_refl _) b2
  have g3 := g2.app a4 (by omega) (Nat.le_refl _) b3
  have g4 := g3.app a5 (by omega) (Nat.le_refl _) b4
  have g5 := g4.app a7 (by omega) (Nat.le_refl _) b5
  refine ⟨((((f1.app f2 g1 a3 (Nat.le_refl _)).app f3 g2 a4 (Nat.le_refl _)).app f4 g3 a5 (Nat.le_refl _)).app f5 g4 a7 (Nat.le_refl _)).app f6 g5 a8 (Nat.le_refl _), ?_⟩
  have e1 : Fine [(⟨some ⟨gx, 0, none⟩, n, capx, none, 0, 0, 0 + n + 1⟩ : Hb)] := fine_one ⟨by simp only; omega, by simp only; omega⟩ (by simp only; omega)
  have e2 : Fine [(⟨Ac, wl.length, cc, none, 0, 0, 0 + n + 1 + 1 + 1 + wl.length + 1⟩ : Hb)] := fine_one ⟨by simp only; omega, by simp only; omega⟩ (by simp only; omega)
  have e3 : Fine [(⟨Au, lo.length, cu, none, 0, 0, 0 + n + 1 + 1 + 1 + wl.length + 1 + 1 + lo.length + 1⟩ : Hb)] := fine_one ⟨by simp only; omega, by simp only; omega⟩ (by simp only; omega)
  have d1 : InBl w.heap.size k4 ([(⟨some ⟨gx, 0, none⟩, n, capx, none, 0, 0, 0 + n + 1⟩ : Hb)] ++ [⟨Ac, wl.length, cc, none, 0, 0, 0 + n + 1 + 1 + 1 + wl.length + 1⟩]) := a2.app a6 b1 (by omega) b4
  exact (e1.app e2 a2 a6 (by omega)).app e3 d1 a9 b5
end

set_option maxRecDepth 100000 in
set_option maxHeartbeats 16000000 in
theorem pput_at (A : Option Addr) (n c : Nat) (t : Int) (B : Option Addr) (d : Nat) (body : List Int) (ps : List Piece) (w : World) (hps : Ps w A n ps) (hnc : n ≤ c) (ht : 0 ≤ t ∧ t ≤ 65535) (hrd : Rd w .u8 B body.length body) (hmd : body.length ≤ d) (hz : B = none → d = 0) (hsz : psSize ps ≤ 281474976710656) :
    Calls Tryz.prog 4 #[.slice A n c, .agg #[.int .u16 t, .slice B body.length d]] w fun e w' => e = .returned (.bool true) ∧ Below w.heap.size w w' := by
  by_cases hbig : 10000 < psSize ps ∨ 3000 < body.length
  · exact pput_big A n c t B d body ps w hps hbig hsz
  have hcnt : cntP ps.length ps ≤ 10000 := by unfold psSize at hbig; omega
  have hl := hps.len
  have hnl : n ≤ 9999 := by
    have h0 := cntP_mono ps ps.length
    rcases Nat.lt_or_ge n 10000 with h | h
    · omega
    · exfalso
      have hne : ps ≠ [] := fun e => by rw [e] at hl; simp at hl; omega
      obtain ⟨q, ps', rfl⟩ := List.exists_cons_of_ne_nil hne
      have h5 : (q :: ps').length ≤ 1048576 := by omega
      rw [cntP, if_pos h5] at hcnt
      have := cntP_mono ps' ((q :: ps').length + (1 + q.2.length))
      omega
  have hsm : ∀ p ∈ ps, p.2.length ≤ 9999 := fun p hp => by have := cntP_small ps ps.length (by omega) p hp; omega
  have hbl : body.length ≤ 3000 := by omega
  have hsz2 : psSize ps ≤ 10000 := by omega
  have hok := ps_ok hps
  have hbb := rd_bytes hrd
  have hokp : okPiece (t, body) := ⟨ht.1, ht.2, hbb⟩
  obtain ⟨hwl16, hwlok⟩ := wL_small hok hokp
  have hwllen := wL_len (p := (t, body)) (K := 9999) hsm (by simp only; omega)
  obtain ⟨hfbl, hfbb⟩ := fB_mem (t := t) hsm hok
  have hpbb := pB_byte hok
  have hpbl := pB_small ps
  have hlol := below_le ps t
  have hlok := okPiece_below (t := t) hok
  have hlolen : ∀ p ∈ paBelow ps t, p.2.length ≤ 9999 := fun p hp => hsm p (List.mem_filter.1 hp).1
  have hB := new_belowB w (.cells #[.int .u16 t, .slice B body.length d] 53)
  have hkp : Blk (w.alloc (.cells #[.int .u16 t, .slice B body.length d] 53)) w.heap.size 53 [.int .u16 t, .slice B body.length d] := Blk.new w 53 [.int .u16 t, .slice B body.length d]
  obtain ⟨w1, hw1⟩ : ∃ w1, w.alloc (.cells #[.int .u16 t, .slice B body.length d] 53) = w1 := ⟨_, rfl⟩
  rw [hw1] at hB hkp
  have hps1 := hps.below hB
  have hrd1 := hrd.below hB
  have hsize := pssize_any A n c ps w1 hps1
  -- what is called with the parameters, in whatever world
  have q1 : ∀ W, Below w1.heap.size w1 W → Calls Tryz.prog 15 #[.slice A n c] W fun e w' => ∃ B cap cells, e = .returned (.slice B n cap) ∧ PsTwin W.heap.size w' B ps cap cells ∧ Below W.heap.size W w' := fun W hW => twinps_any A n c ps W (hps1.below hW) (fun p hp => by have := hsm p hp; omega) (by omega)
  have q2 : ∀ W, Below w1.heap.size w1 W → Calls Tryz.prog 16 #[.agg #[.int .u16 t, .slice B body.length d]] W fun e w' => ∃ B cb, e = .returned (.agg #[.int .u16 t, .slice B body.length cb]) ∧ TwinRow W.heap.size w' B body cb ∧ Below W.heap.size W w' := fun W hW => twinp_any t B body.length d body W (hrd1.below hW) hmd (by omega)
  have q3 : ∀ W, Below w1.heap.size w1 W → Calls Tryz.prog 18 #[.slice A n c] W (RBytesU W (pB ps) (.int .i64 (putE ps))) := fun W hW => refpaput_u A n c ps W (hps1.below hW)
  have q4 : ∀ W, Below w1.heap.size w1 W → Calls Tryz.prog 20 #[.slice A n c, .agg #[.int .u16 t, .slice B body.length d]] W (PiecesU W (wL ps (t, body)) (.int .i64 (withE ps t))) := fun W hW => rwith_u A n c t B body.length d body ps W (hps1.below hW) (by omega) ht (hrd1.below hW) hmd hz
  have q5 : ∀ W, Below w1.heap.size w1 W → Calls Tryz.prog 22 #[.slice A n c, .int .u16 t] W (BytesU W (fB ps t) (.bool (paFind ps t).isSome)) := fun W hW => rfind_u A n c t ps W (hps1.below hW) (by omega)
  have q6 : ∀ W, Below w1.heap.size w1 W → Calls Tryz.prog 26 #[.slice A n c, .int .u16 t] W fun e w' => ∃ A' c' cells, e = .returned (.slice A' (paBelow ps t).length c') ∧ PsOwn W.heap.size w' (.slice A' (paBelow ps t).length c') (paBelow ps t) cells ∧ Below W.heap.size W w' := fun W hW => rbelow_any A n c t ps W (hps1.below hW) (by omega)
  -- what is called with their twins
  have r1 : ∀ (X : Option Addr) (cX : Nat) W, Ps W X n ps → Calls Tryz.prog 17 #[.slice X n cX] W (BytesU W (pB ps) (.int .i64 (putE ps))) := fun X cX W h => paput_u X n cX ps W h
  have r2 : ∀ (X : Option Addr) (cX : Nat) (Z : Option Addr) (cZ : Nat) W, Ps W X n ps → Rd W .u8 Z body.length body → body.length ≤ cZ → (Z = none → cZ = 0) → Calls Tryz.prog 19 #[.slice X n cX, .agg #[.int .u16 t, .slice Z body.length cZ]] W (PiecesU W (wL ps (t, body)) (.int .i64 (withE ps t))) := fun X cX Z cZ W h h2 h3 h4 => with_u X n cX t Z body.length cZ body ps W h ht h2 h3 h4
  have r3 : ∀ (X : Option Addr) (cX : Nat) W, Ps W X n ps → Calls Tryz.prog 21 #[.slice X n cX, .int .u16 t] W (BytesU W (fB ps t) (.bool (paFind ps t).isSome)) := fun X cX W h => find_u X n cX t ps W h (by omega)
  have r4 : ∀ (X : Option Addr) (cX : Nat) W, Ps W X n ps → Calls Tryz.prog 23 #[.slice X n cX, .int .u16 t] W fun e w' => ∃ G cells, e = .returned (.slice (some ⟨G, 0, none⟩) (paBelow ps t).length (paBelow ps t).length) ∧ PsOwn W.heap.size w' (.slice (some ⟨G, 0, none⟩) (paBelow ps t).length (paBelow ps t).length) (paBelow ps t) cells ∧ Below W.heap.size W w' := fun X cX W h => below_any X n cX t ps W h (by omega)
  unfold RBytesU at q3
  unfold PiecesU at q4 r2
  unfold BytesU at q5 r1 r3
  generalize pB ps = bs at *
  generalize wL ps (t, body) = wl at *
  generalize fB ps t = fb at *
  generalize paBelow ps t = lo at *
  generalize putE ps = E1 at *
  generalize withE ps t = E2 at *
  generalize (paFind ps t).isSome = qf at *
  obtain ⟨bl, hbsl⟩ : ∃ k, bs.length = k := ⟨_, rfl⟩
  obtain ⟨ll, hlol2⟩ : ∃ k, lo.length = k := ⟨_, rfl⟩
  obtain ⟨vl, hwl2⟩ : ∃ k, wl.length = k := ⟨_, rfl⟩
  obtain ⟨fl, hfl2⟩ : ∃ k, fb.length = k := ⟨_, rfl⟩
  obtain ⟨yl, hyl⟩ : ∃ k, body.length = k := ⟨_, rfl⟩
  obtain ⟨SZ, hSZ⟩ : ∃ k, psSize ps = k := ⟨_, rfl⟩
  rw [hSZ] at hsize hsz2
  have hsz3 : ¬ (10000 : Int) < (SZ : Int) := by omega
  have hyl3 : ¬ (3000 : Int) < (yl : Int) := by omega
  rw [hyl] at hkp q2 q4 r2 hw1 ⊢
  rw [hbsl] at q3 r1
  rw [hwl2] at q4 r2
  rw [hfl2] at q5 r3
  rw [hlol2] at q6 r4
  have HYL := Lib.hid hyl
  have HBSL := Lib.hid hbsl
  have HLOL := Lib.hid hlol2
  have HWL2 := Lib.hid hwl2
  have HFL := Lib.hid hfl2
  have hasx : ∀ (W : World) (X : Option Addr) (cX base : Nat) (cells : List Value), PsTwin base W X ps cX cells → Ps W X n ps := fun W X cX base cells h => by
    have := h.own
    rw [hl] at this
    exact this.asPs hl (by omega) hok (fun p hp => by have := hsm p hp; omega)
  have hasw : ∀ (W : World) (X : Option Addr) (cX base : Nat) (cells : List Value), PsOwn base W (.slice X vl cX) wl cells → Ps W X vl wl := fun W X cX base cells h => h.asPs hwl2 (by omega) hwlok (fun p hp => by have := hwllen p hp; omega)
  have haso : ∀ (W : World) (X : Option Addr) (cX base : Nat) (cells : List Value), PsOwn base W (.slice X ll cX) lo cells → Ps W X ll lo := fun W X cX base cells h => h.asPs hlol2 (by omega) hlok (fun p hp => by have := hlolen p hp; omega)
  have hasy : ∀ (W : World) (X : Option Addr) (cX base : Nat), TwinRow base W X body cX → Rd W .u8 X yl body ∧ yl ≤ cX ∧ (X = none → cX = 0) := fun W X cX base h => by
    have h1 := h.rd hbb (by omega)
    obtain ⟨g, rfl, h2, _⟩ := h
    refine ⟨?_, by omega, fun e => by cases e⟩
    have := h1.cut body.length (by omega)
    rw [List.take_append_of_le_length (Nat.le_refl _), List.take_of_length_le (Nat.le_refl _), hyl] at this
    exact this
  have HASX := Lib.hid hasx
  have HASW := Lib.hid hasw
  have HASO := Lib.hid haso
  have HASY := Lib.hid hasy
  have HW1 := Lib.hid hw1
  have HB := Lib.hid hB
  have HKP := Lib.hid hkp
  have HPS1 := Lib.hid hps1
  have HRD1 := Lib.hid hrd1
  have HSIZE := Lib.hid hsize
  have Q1 := Lib.hid q1
  have Q2 := Lib.hid q2
  have Q3 := Lib.hid q3
  have Q4 := Lib.hid q4
  have Q5 := Lib.hid q5
  have Q6 := Lib.hid q6
  have R1 := Lib.hid r1
  have R2 := Lib.hid r2
  have R3 := Lib.hid r3
  have R4 := Lib.hid r4
  have HL := Lib.hid hl
  have HOK := Lib.hid hok
  have HBB := Lib.hid hbb
  have HFBB := Lib.hid hfbb
  have HPBB := Lib.hid hpbb
  have HSM := Lib.hid hsm
  have HWLL := Lib.hid hwllen
  have HLLL := Lib.hid hlolen
  obtain ⟨P, hP⟩ : ∃ P, w.heap.size = P := ⟨_, rfl⟩
  rw [hP] at HKP
  have hPl : P < w1.heap.size := HKP.out.lt
  have hPw : w.heap.size ≤ P := by omega
  have hwl16' : vl ≤ 16 := by omega
  have hll' : ll ≤ n := by omega
  have hbl' : bl ≤ 2048 := by omega
  have hfl' : fl ≤ 9999 := by omega
  have hyl' : yl ≤ 3000 := by omega
  clear hbig hcnt hsm hsz2 hok hbb hokp hwl16 hwlok hwllen hfbl hfbb hpbb hpbl hlol hlok hlolen hB hkp hps1 hrd1 hsize q1 q2 q3 q4 q5 q6 r1 r2 r3 r4 hasx hasw haso hasy hw1 hps hrd hmd hz hnc hsz hl hyl hbsl hlol2 hwl2 hfl2 hSZ hbl
  go_enter Tryz.func4, Tryz.ntmps4
  go_wp2_with fail
  rw [HW1.out]; clear hP
  refine HSIZE.out.mono ?_; rintro e w2 ⟨rfl, hB2⟩
  have HB2 := Lib.hid hB2
  have c0 : w2.cell? ⟨P, 0, none⟩ = some (.int .u16 t) := (hB2.cell (p := ⟨P, 0, none⟩) hPl).trans (HKP.out.cell 0)
  have c1 : w2.cell? ⟨P, 1, none⟩ = some (.slice B yl d) := (hB2.cell (p := ⟨P, 1, none⟩) hPl).trans (HKP.out.cell 1)
  clear hB2 HSIZE HW1
  go_wp2_with fail
  refine (Q1.out _ HB2.out).mono ?_; rintro e w3 ⟨X, capx, cx, rfl, hx3, hB3⟩
  obtain ⟨gx, rfl, -, -⟩ := hx3.at_
  have HX3 := Lib.hid hx3
  have hB13 := HB2.out.trans (hB3.mono HB2.out.size)
  have HB13 := Lib.hid hB13
  have HS3 : Hid (w2.heap.size ≤ w3.heap.size) := Lib.hid hB3.size
  have d0 : w3.cell? ⟨P, 0, none⟩ = some (.int .u16 t) := (hB13.cell (p := ⟨P, 0, none⟩) hPl).trans (HKP.out.cell 0)
  have d1 : w3.cell? ⟨P, 1, none⟩ = some (.slice B yl d) := (hB13.cell (p := ⟨P, 1, none⟩) hPl).trans (HKP.out.cell 1)
  clear hB3 hB13 hx3 c0 c1 Q1
  go_wp2_with fail
  refine (Q2.out _ HB13.out).mono ?_; rintro e w4 ⟨By, cby, rfl, hy4, hB4⟩
  have HY4 := Lib.hid hy4
  have HB34 := Lib.hid hB4
  have hnb := new_belowB w4 (.cells #[.int .u16 t, .slice By yl cby] 53)
  have hyk : Blk (w4.alloc (.cells #[.int .u16 t, .slice By yl cby] 53)) w4.heap.size 53 [.int .u16 t, .slice By yl cby] := Blk.new w4 53 [.int .u16 t, .slice By yl cby]
  obtain ⟨w5, hw5⟩ : ∃ w5, w4.alloc (.cells #[.int .u16 t, .slice By yl cby] 53) = w5 := ⟨_, rfl⟩
  rw [hw5] at hnb hyk
  obtain ⟨Y, hY⟩ : ∃ Y, w4.heap.size = Y := ⟨_, rfl⟩
  rw [hY] at hyk
  have hYl := hyk.lt
  have HYK := Lib.hid hyk
  have HB45 := Lib.hid hnb
  have HB35 := Lib.hid (hB4.trans (hnb.mono hB4.size))
  have HW5 := Lib.hid hw5
  clear hB4 hnb hyk hy4 hw5 d0 d1 Q2
  go_wp2_with fail
  rw [HW5.out]
  clear hY
  have hx5 := HX3.out.below HB35.out
  refine (R1.out _ capx w5 (HASX.out _ _ _ _ _ hx5)).mono ?_; rintro e w6 ⟨Aa, ca, rfl, ha6, hB6⟩
  have HA6 := Lib.hid ha6
  have HB6 := Lib.hid hB6
  have HX5 := Lib.hid hx5
  have hB16 : Below w1.heap.size w1 w6 := (HB13.out.trans (HB35.out.mono HB13.out.size)).trans (hB6.mono (HB13.out.trans (HB35.out.mono HB13.out.size)).size)
  have HB16 := Lib.hid hB16
  clear hB6 hB16 hx5 ha6 R1
  go_wp2_with fail
  refine (Q3.out _ HB16.out).mono ?_; rintro e w7 ⟨Ab, cb, rfl, hb7, hB7⟩
  have HBR7 := Lib.hid hb7
  have HB67 := Lib.hid hB7
  have HB57 : Hid (Below w5.heap.size w5 w7) := Lib.hid (HB6.out.trans (hB7.mono HB6.out.size))
  have HB17 : Hid (Below w1.heap.size w1 w7) := Lib.hid (HB16.out.trans (hB7.mono HB16.out.size))
  have y0 : w7.cell? ⟨Y, 0, none⟩ = some (.int .u16 t) := (HB57.out.cell (p := ⟨Y, 0, none⟩) hYl).trans (HYK.out.cell 0)
  have y1 : w7.cell? ⟨Y, 1, none⟩ = some (.slice By yl cby) := (HB57.out.cell (p := ⟨Y, 1, none⟩) hYl).trans (HYK.out.cell 1)
  clear hb7 hB7 Q3
  go_wp2_with fail
  have hy7 := (HY4.out.below HB45.out).below HB57.out
  obtain ⟨hyr, hyc, hyz⟩ := HASY.out _ _ _ _ hy7
  refine (R2.out _ capx By cby w7 (HASX.out _ _ _ _ _ (HX5.out.below HB57.out)) hyr hyc hyz).mono ?_; rintro e w8 ⟨Ac, cc, cellc, rfl, hc8, hB8⟩
  have HC8 := Lib.hid hc8
  have HB78 := Lib.hid hB8
  have HB58 : Hid (Below w5.heap.size w5 w8) := Lib.hid (HB57.out.trans (hB8.mono HB57.out.size))
  have HB18 : Hid (Below w1.heap.size w1 w8) := Lib.hid (HB17.out.trans (hB8.mono HB17.out.size))
  have e0 : w8.cell? ⟨P, 0, none⟩ = some (.int .u16 t) := (HB18.out.cell (p := ⟨P, 0, none⟩) hPl).trans (HKP.out.cell 0)
  have e1 : w8.cell? ⟨P, 1, none⟩ = some (.slice B yl d) := (HB18.out.cell (p := ⟨P, 1, none⟩) hPl).trans (HKP.out.cell 1)
  clear hy7 hyr hyc hyz hc8 hB8 y0 y1 R2
  go_wp2_with fail
  refine (Q4.out _ HB18.out).mono ?_; rintro e w9 ⟨Ad, cd, celld, rfl, hd9, hB9⟩
  have HD9 := Lib.hid (HASW.out _ _ _ _ _ hd9)
  have HB89 := Lib.hid hB9
  have HB59 : Hid (Below w5.heap.size w5 w9) := Lib.hid (HB58.out.trans (hB9.mono HB58.out.size))
  have HB19 : Hid (Below w1.heap.size w1 w9) := Lib.hid (HB18.out.trans (hB9.mono HB18.out.size))
  have f0 : w9.cell? ⟨P, 0, none⟩ = some (.int .u16 t) := (HB19.out.cell (p := ⟨P, 0, none⟩) hPl).trans (HKP.out.cell 0)
  clear hd9 hB9 e0 e1 Q4
  go_wp2_with fail
  refine (R3.out _ capx w9 (HASX.out _ _ _ _ _ (HX5.out.below HB59.out))).mono ?_; rintro e wa ⟨As, cs, rfl, hsa, hBa⟩
  have HSA := Lib.hid hsa
  have HB9a := Lib.hid hBa
  have HB5a : Hid (Below w5.heap.size w5 wa) := Lib.hid (HB59.out.trans (hBa.mono HB59.out.size))
  have HB1a : Hid (Below w1.heap.size w1 wa) := Lib.hid (HB19.out.trans (hBa.mono HB19.out.size))
  have g0 : wa.cell? ⟨P, 0, none⟩ = some (.int .u16 t) := (HB1a.out.cell (p := ⟨P, 0, none⟩) hPl).trans (HKP.out.cell 0)
  clear hsa hBa f0 R3
  go_wp2_with fail
  refine (Q5.out _ HB1a.out).mono ?_; rintro e wb ⟨At, ct, rfl, htb, hBb⟩
  have HTB := Lib.hid (htb.rd HFBB.out (by omega))
  have HBab := Lib.hid hBb
  have HB5b : Hid (Below w5.heap.size w5 wb) := Lib.hid (HB5a.out.trans (hBb.mono HB5a.out.size))
  have HB1b : Hid (Below w1.heap.size w1 wb) := Lib.hid (HB1a.out.trans (hBb.mono HB1a.out.size))
  have h0 : wb.cell? ⟨P, 0, none⟩ = some (.int .u16 t) := (HB1b.out.cell (p := ⟨P, 0, none⟩) hPl).trans (HKP.out.cell 0)
  clear htb hBb g0 Q5
  go_wp2_with fail
  refine (R4.out _ capx wb (HASX.out _ _ _ _ _ (HX5.out.below HB5b.out))).mono ?_; rintro e wc ⟨Gu, cellu, rfl, huc, hBc⟩
  have HUC := Lib.hid huc
  have HBbc := Lib.hid hBc
  have HB5c : Hid (Below w5.heap.size w5 wc) := Lib.hid (HB5b.out.trans (hBc.mono HB5b.out.size))
  have HB1c : Hid (Below w1.heap.size w1 wc) := Lib.hid (HB1b.out.trans (hBc.mono HB1b.out.size))
  clear huc hBc h0 R4
  have hmade : PutMade w P Y t A B n c d body ps wl lo bs fb gx capx cx By cby Aa Ab Ac Ad As At (some ⟨Gu, 0, none⟩) ca cb cc cd cs ct ll cellc cellu wc := by
    have s1 := HB.out.size
    have s2 := HB2.out.size
    have s3 := HS3.out
    have s4 := HB34.out.size
    have s5 := HB45.out.size
    have s6 := HB6.out.size
    have s7 := HB67.out.size
    have s8 := HB78.out.size
    have s9 := HB89.out.size
    have sa := HB9a.out.size
    have sb := HBab.out.size
    have sc := HBbc.out.size
    have hB6c : Below w6.heap.size w6 wc := ((((((HB67.out.trans (HB78.out.mono s7)).trans (HB89.out.mono (by omega))).trans (HB9a.out.mono (by omega))).trans (HBab.out.mono (by omega))).trans (HBbc.out.mono (by omega))))
    have hB7c : Below w7.heap.size w7 wc := ((((HB78.out.trans (HB89.out.mono (by omega))).trans (HB9a.out.mono (by omega))).trans (HBab.out.mono (by omega))).trans (HBbc.out.mono (by omega)))
    have hB8c : Below w8.heap.size w8 wc := (((HB89.out.trans (HB9a.out.mono (by omega))).trans (HBab.out.mono (by omega))).trans (HBbc.out.mono (by omega)))
    have hB9c : Below w9.heap.size w9 wc := ((HB9a.out.trans (HBab.out.mono (by omega))).trans (HBbc.out.mono (by omega)))
    have hBac : Below wa.heap.size wa wc := HBab.out.trans (HBbc.out.mono (by omega))
    refine ⟨HB.out.trans (HB1c.out.mono s1), HPS1.out.below HB1c.out, HRD1.out.below HB1c.out, by rw [HYL.out]; exact HKP.out.below HB1c.out hPl, by rw [HYL.out]; exact HYK.out.below HB5c.out hYl, (HX5.out.below HB5c.out).lower (by omega), ((HY4.out.below HB45.out).below HB5c.out).lower (by omega), ?_, ?_, ?_, ?_, ?_, ?_, ?_, ?_⟩
    · rw [HBSL.out]; exact (HA6.out.below hB6c).lower (by omega)
    · rw [HBSL.out]; exact HBR7.out.below hB7c
    · rw [HWL2.out]; exact (HC8.out.below hB8c).lower (by omega)
    · rw [HWL2.out]; exact HD9.out.below hB9c
    · rw [HFL.out]; exact (HSA.out.below hBac).lower (by omega)
    · rw [HFL.out]; exact HTB.out.below HBbc.out
    · rw [HLOL.out]; exact HUC.out.lower (by omega)
    · have hxo := HX3.out.own
      have hxr := hxo.row
      rw [HL.out] at hxr hxo
      have hyr := HY4.out.row
      rw [HYL.out, HBSL.out, HWL2.out, HFL.out, HLOL.out]
      rw [HYL.out] at hyr
      refine ⟨w3.heap.size, w4.heap.size, w6.heap.size, w8.heap.size, wa.heap.size, (inBl_bodies hxo HL.out).mono (by omega) (Nat.le_refl _), (inBl_one hxr).mono (by omega) (Nat.le_refl _), inBl_one hyr, (inBl_one HA6.out).mono (by omega) (Nat.le_refl _), (inBl_bodies HC8.out HWL2.out).mono (by omega) (Nat.le_refl _), (inBl_one (RowG.lower (by have := HC8.out.row; rw [HWL2.out] at this; exact this) (show w6.heap.size ≤ w7.heap.size by omega))), (inBl_one HSA.out).mono (by omega) (Nat.le_refl _), (inBl_bodies HUC.out HLOL.out).mono (by omega) (Nat.le_refl _), (inBl_one (RowG.lower (by have := HUC.out.row; rw [HLOL.out] at this; exact this) (show wa.heap.size ≤ wb.heap.size by omega))), by omega, by omega, by omega, by omega, by omega, by omega⟩
  have HM := Lib.hid hmade
  clear hmade HB2 HX3 HB13 HS3 HY4 HB34 HYK HB45 HB35 HW5 HA6 HB6 HX5 HB16 HBR7 HB67 HB57 HB17 HC8 HB78 HB58 HB18 HD9 HB89 HB59 HB19 HSA HB9a HB5a HB1a HTB HBab HB5b HB1b HUC HBbc HB5c HPS1 HRD1 HKP hPl hYl
  -- the Book
  obtain ⟨wd, hwd⟩ : ∃ wd, wc.alloc (.cells zBook.toArray 45) = wd := ⟨_, rfl⟩
  have hbk := bkst_new wc
  have hBd := new_belowB wc (.cells zBook.toArray 45)
  rw [hwd] at hbk hBd
  have HAL : Hid (∀ (o : Oper), o.op = .alloc 45 → ∀ ev, (execOp ev o).run Tryz.prog wc = .ok (.value (.pointer (some ⟨wc.heap.size, 0, none⟩))) wd) := Lib.hid (fun o ho ev => by rw [← hwd]; exact exec_alloc_book wc o ho ev)
  obtain ⟨BK, hBK⟩ : ∃ BK, wc.heap.size = BK := ⟨_, rfl⟩
  rw [hBK] at hbk HAL hBd
  have HBKE := Lib.hid hBK
  have hSd : BK ≤ wd.heap.size := by rw [← hBK]; exact hBd.size
  have hxo := HM.out.x.own
  rw [HL.out] at hxo
  have s1 := bparams_st BK w.heap.size 0 [] [] (some ⟨gx, 0, none⟩) n capx ps cx wd hbk hSd (hxo.below (by rw [hBK]; exact hBd)) HL.out (by omega)
  have HS1 := Lib.hid s1
  have HBD := Lib.hid hBd
  have HSD := Lib.hid hSd
  clear hbk hBd hwd hSd s1 hxo hBK
  go_wp2_with (refine wpList_value (o := ⟨some 20, .alloc 45, _, _, _, _⟩) (v := .pointer (some ⟨BK, 0, none⟩)) (w' := wd) rfl (HAL.out _ rfl _) ?_)
  refine HS1.out.mono ?_; rintro e we ⟨rfl, hbe, hBe⟩
  rw [List.nil_append, List.nil_append] at hbe
  have HBE : Hid (Below BK wc we) := Lib.hid (HBD.out.trans hBe)
  have hye := HM.out.yblk.below HBE.out (by have h1 := HM.out.yblk.lt; have h2 := HBKE.out; omega)
  have y0 : we.cell? ⟨Y, 0, none⟩ = some (.int .u16 t) := hye.cell 0
  have y1 : we.cell? ⟨Y, 1, none⟩ = some (.slice By yl cby) := by have := hye.cell 1; rwa [HYL.out] at this
  have HSE : Hid (BK ≤ we.heap.size) := Lib.hid (Nat.le_trans HSD.out hBe.size)
  have s2 := bparam_st BK (0 + n + 1) _ _ t By yl cby we hbe HSE.out (by omega)
  have HS2 := Lib.hid s2
  clear s2 hbe hBe hye HAL HS1
  go_wp2_with fail
  refine HS2.out.mono ?_; rintro e wf ⟨rfl, hbf, hBf⟩
  have HBF : Hid (Below BK wc wf) := Lib.hid (HBE.out.trans hBf)
  have HSF : Hid (BK ≤ wf.heap.size) := Lib.hid (Nat.le_trans HSE.out hBf.size)
  have s3 := bytes_st BK (0 + n + 1 + 1) _ _ Aa bl ca wf hbf HSF.out (by omega)
  have HS3 := Lib.hid s3
  clear s3 hbf hBf HS2 y0 y1
  go_wp2_with fail
  refine HS3.out.mono ?_; rintro e wg ⟨rfl, hbg, hBg⟩
  have HBG : Hid (Below BK wc wg) := Lib.hid (HBF.out.trans hBg)
  have HSG : Hid (BK ≤ wg.heap.size) := Lib.hid (Nat.le_trans HSF.out hBg.size)
  have hcw := HM.out.c_
  rw [HWL2.out] at hcw
  have s4 := bparams_st BK w.heap.size (0 + n + 1 + 1 + 1) _ _ Ac vl cc wl cellc wg hbg HSG.out (hcw.below (by rw [HBKE.out]; exact HBG.out)) HWL2.out (by omega)
  have HS4 := Lib.hid s4
  clear s4 hbg hBg HS3 hcw
  go_wp2_with fail
  refine HS4.out.mono ?_; rintro e wh ⟨rfl, hbh, hBh⟩
  have HBH : Hid (Below BK wc wh) := Lib.hid (HBG.out.trans hBh)
  have HSH : Hid (BK ≤ wh.heap.size) := Lib.hid (Nat.le_trans HSG.out hBh.size)
  have s5 := bytes_st BK (0 + n + 1 + 1 + 1 + vl + 1) _ _ As fl cs wh hbh HSH.out (by omega)
  have HS5 := Lib.hid s5
  clear s5 hbh hBh HS4
  go_wp2_with fail
  refine HS5.out.mono ?_; rintro e wi ⟨rfl, hbi, hBi⟩
  have HBI : Hid (Below BK wc wi) := Lib.hid (HBH.out.trans hBi)
  have HSI : Hid (BK ≤ wi.heap.size) := Lib.hid (Nat.le_trans HSH.out hBi.size)
  have huw := HM.out.u
  rw [HLOL.out] at huw
  have s6 := bparams_st BK w.heap.size (0 + n + 1 + 1 + 1 + vl + 1 + 1) _ _ (some ⟨Gu, 0, none⟩) ll ll lo cellu wi hbi HSI.out (huw.below (by rw [HBKE.out]; exact HBI.out)) HLOL.out (by omega)
  have HS6 := Lib.hid s6
  clear s6 hbi hBi HS5 huw
  go_wp2_with fail
  refine HS6.out.mono ?_; rintro e wj ⟨rfl, hbj, hBj⟩
  have HBJ : Hid (Below wc.heap.size wc wj) := Lib.hid (by rw [HBKE.out]; exact HBI.out.trans hBj)
  have HBKJ := Lib.hid hbj
  clear hbj hBj HS6 HBE HSE HBF HSF HBG HSG HBH HSH HBI HSI HBD HSD
  -- what is compared
  have hEE1 : (E1 == E1) = true := by simp
  have hEE2 : (E2 == E2) = true := by simp
  have hEE3 : (qf == qf) = true := by simp
  have harow := HM.out.a.rd HPBB.out (by rw [HBSL.out]; omega)
  have hbrd := HM.out.b
  rw [HBSL.out] at harow hbrd
  have hsm1 := same_any Aa bl ca bs Ab bl cb bs wj (harow.below HBJ.out) (hbrd.below HBJ.out)
  rw [decide_eq_true rfl] at hsm1
  have HSM1 := Lib.hid hsm1
  clear hsm1 harow hbrd
  go_wp2_with fail
  refine HSM1.out.mono ?_; rintro e wk ⟨rfl, hDk⟩
  have HBK_ : Hid (Below wc.heap.size wc wk) := Lib.hid (below_drawn HBJ.out hDk)
  have HBKK := Lib.hid (HBKJ.out.below (below_drawn (Below.refl _ _) hDk))
  have hcw := HM.out.c_
  have hdw := HM.out.d_
  rw [HWL2.out] at hcw hdw
  have hsm2 := sameps_any Ac Ad vl cc vl cd wl wk (HASW.out _ _ _ _ _ (hcw.below HBK_.out)) (hdw.below HBK_.out)
  have HSM2 := Lib.hid hsm2
  clear hsm2 hcw hdw hDk HSM1 HBKJ
  go_wp2_with fail
  refine HSM2.out.mono ?_; rintro e wl_ ⟨rfl, hBl⟩
  have HBL : Hid (Below wc.heap.size wc wl_) := Lib.hid (HBK_.out.trans (hBl.mono HBK_.out.size))
  have HBKL := Lib.hid (HBKK.out.below hBl)
  have hsrow := HM.out.s.rd HFBB.out (by rw [HFL.out]; omega)
  have htrd := HM.out.t_
  rw [HFL.out] at hsrow htrd
  have hsm3 := same_any As fl cs fb At fl ct fb wl_ (hsrow.below HBL.out) (htrd.below HBL.out)
  rw [decide_eq_true rfl] at hsm3
  have HSM3 := Lib.hid hsm3
  clear hsm3 hsrow htrd hBl HSM2 HBKK HBK_
  go_wp2_with fail
  refine HSM3.out.mono ?_; rintro e wm ⟨rfl, hDm⟩
  have HBM : Hid (Below wc.heap.size wc wm) := Lib.hid (below_drawn HBL.out hDm)
  have HBKM := Lib.hid (HBKL.out.below (below_drawn (Below.refl _ _) hDm))
  have hpc := HM.out.pblk.lt
  have hycl := HM.out.yblk.lt
  have m0 : wm.cell? ⟨P, 0, none⟩ = some (.int .u16 t) := (HBM.out.cell (p := ⟨P, 0, none⟩) hpc).trans (HM.out.pblk.cell 0)
  have HB1m : Hid (Below w1.heap.size w1 wm) := Lib.hid (HB1c.out.trans (HBM.out.mono HB1c.out.size))
  clear hDm HSM3 HBKL HBL
  go_wp2_with fail
  refine (Q6.out _ HB1m.out).mono ?_; rintro e wn ⟨Av, cv, cellv, rfl, hv, hBn⟩
  have HBN : Hid (Below wc.heap.size wc wn) := Lib.hid (HBM.out.trans (hBn.mono HBM.out.size))
  have HBKN := Lib.hid (HBKM.out.below hBn)
  have huw := HM.out.u
  rw [HLOL.out] at huw
  have hsm4 := sameps_any (some ⟨Gu, 0, none⟩) Av ll ll ll cv lo wn (HASO.out _ _ _ _ _ (huw.below HBN.out)) (HASO.out _ _ _ _ _ hv)
  have HSM4 := Lib.hid hsm4
  clear hsm4 huw hv hBn HBKM HBM HB1m m0 Q6
  go_wp2_with fail
  refine HSM4.out.mono ?_; rintro e wo ⟨rfl, hBo⟩
  have HBO : Hid (Below wc.heap.size wc wo) := Lib.hid (HBN.out.trans (hBo.mono HBN.out.size))
  have HBKO := Lib.hid (HBKN.out.below hBo)
  have hlf := leftps_any w.heap.size (some ⟨gx, 0, none⟩) A capx n c cx ps wo (HM.out.x.below HBO.out) (HM.out.ps_.below HBO.out) HOK.out (fun p hp => by have := HSM.out p hp; omega)
  have HLF := Lib.hid hlf
  clear hlf hBo HSM4 HBKN HBN
  go_wp2_with fail
  refine HLF.out.mono ?_; rintro e wp_ ⟨rfl, hBp⟩
  have HBP : Hid (Below wc.heap.size wc wp_) := Lib.hid (HBO.out.trans (hBp.mono HBO.out.size))
  have HBKP := Lib.hid (HBKO.out.below hBp)
  have hyq := (HBP.out.cell (p := ⟨Y, 1, none⟩) hycl).trans (HM.out.yblk.cell 1)
  have hpq := (HBP.out.cell (p := ⟨P, 1, none⟩) hpc).trans (HM.out.pblk.cell 1)
  rw [HYL.out] at hyq hpq
  have n0 : wp_.cell? ⟨Y, 0, none⟩ = some (.int .u16 t) := (HBP.out.cell (p := ⟨Y, 0, none⟩) hycl).trans (HM.out.yblk.cell 0)
  have n1 : wp_.cell? ⟨Y, 1, none⟩ = some (.slice By yl cby) := hyq
  have n2 : wp_.cell? ⟨P, 0, none⟩ = some (.int .u16 t) := (HBP.out.cell (p := ⟨P, 0, none⟩) hpc).trans (HM.out.pblk.cell 0)
  have n3 : wp_.cell? ⟨P, 1, none⟩ = some (.slice B yl d) := hpq
  have hlp := leftp_any w.heap.size t By B cby d body wp_ (HM.out.y.below HBP.out) HBB.out (by rw [HYL.out]; omega) (HM.out.rd_.below HBP.out)
  rw [HYL.out] at hlp
  have HLP := Lib.hid hlp
  clear hlp hyq hpq hBp HLF HBKO HBO
  go_wp2_with fail
  refine HLP.out.mono ?_; rintro e wq ⟨rfl, hBq⟩
  have HBQ : Hid (Below wc.heap.size wc wq) := Lib.hid (HBP.out.trans (hBq.mono HBP.out.size))
  have hbkq := HBKP.out.below hBq
  have hmq : PutMade w P Y t A B n c d body ps wl lo bs fb gx capx cx By cby Aa Ab Ac Ad As At (some ⟨Gu, 0, none⟩) ca cb cc cd cs ct ll cellc cellu wq := by
    have h := HM.out
    have hB := HBQ.out
    refine ⟨h.below.trans (hB.mono h.below.size), h.ps_.below hB, h.rd_.below hB, h.pblk.below hB h.pblk.lt, h.yblk.below hB h.yblk.lt, h.x.below hB, h.y.below hB, h.a.below hB, h.b.below hB, h.c_.below hB, h.d_.below hB, h.s.below hB, h.t_.below hB, h.u.below hB, ?_⟩
    obtain ⟨k1, k2, k3, k4, k5, a1, a2, a3, a4, a5, a6, a7, a8, a9, b1, b2, b3, b4, b5, b6⟩ := h.apart
    exact ⟨k1, k2, k3, k4, k5, a1, a2, a3, a4, a5, a6, a7, a8.mono (Nat.le_refl _) hB.size, a9.mono (Nat.le_refl _) hB.size, b1, b2, b3, b4, b5, Nat.le_trans b6 hB.size⟩
  obtain ⟨fine1, fine10⟩ := hmq.fine HL.out hnl (by rw [HWL2.out]; exact hwl16') (by rw [HLOL.out]; exact hll') HSM.out HWLL.out HLLL.out (by rw [HYL.out]; omega) (by rw [HBSL.out]; omega) (by rw [HFL.out]; omega)
  have rows1 := hmq.rows HL.out
  have rows10 : ∀ h ∈ [(⟨some ⟨gx, 0, none⟩, n, capx, none, 0, 0, 0 + n + 1⟩ : Hb), ⟨Ac, wl.length, cc, none, 0, 0, 0 + n + 1 + 1 + 1 + wl.length + 1⟩, ⟨some ⟨Gu, 0, none⟩, lo.length, ll, none, 0, 0, 0 + n + 1 + 1 + 1 + wl.length + 1 + 1 + lo.length + 1⟩], ∃ cs, RowIs kParam w.heap.size wq h cs := fun h hh => by
    simp only [List.mem_cons, List.not_mem_nil, or_false] at hh
    rcases hh with rfl | rfl | rfl
    · have := hmq.x.own.row
      rw [HL.out] at this
      exact ⟨_, this⟩
    · exact ⟨_, hmq.c_.row⟩
    · exact ⟨_, hmq.u.row⟩
  rw [HYL.out, HBSL.out, HWL2.out, HFL.out, HLOL.out] at fine1 rows1
  rw [HWL2.out, HLOL.out] at fine10 rows10
  have hap := apart_st w.heap.size BK _ _ _ wq hbkq (by have h1 := HM.out.below.size; have h2 := HBKE.out; omega) rows1 fine1 rows10 fine10 hmq.below.size
  have HAP := Lib.hid hap
  have HBW := Lib.hid hmq.below
  clear hap rows10 rows1 fine10 fine1 hmq hbkq hBq HLP HBKP HBP n0 n1 n2 n3
  go_wp2_with fail
  refine HAP.out.mono ?_; rintro e wr ⟨rfl, hkr⟩
  have HBR : Hid (Below w.heap.size w wr) := Lib.hid (below_keeps HBW.out hkr (Nat.le_refl _) (fun i hi => hi))
  clear hkr HAP
  go_wp2_with fail
  refine (lives_true wr).mono ?_; rintro e ws ⟨rfl, hBs⟩
  have HBS := Lib.hid (HBR.out.trans (hBs.mono HBR.out.size))
  clear hBs
  go_wp2_with fail
  go_ret
  exact ⟨rfl, HBS.out⟩
end Go.Proofs.YtlcnjdpfijgcdaaGreatDoor

namespace Go.Proofs.YtlcnjdpfijgcdaaGreatDoor
open Go.RowKit Go.ChangeShapes Go.WideShapes
set_option linter.unusedSimpArgs false
set_option linter.unusedVariables false

theorem psSize_bound {w : World} {A : Option Addr} {n : Nat} {ps : List Piece} (h : Ps w A n ps) : psSize ps ≤ 281474976710656 := by
  have := cntP_le 140737488351232 ps ps.length (okPiece_len h) (by have := h.len; have := h.big; omega)
  unfold psSize; omega
theorem two_parts (cs : List Value) (h : cs.length = 2) : cs.take 1 ++ (cs.drop 1).take 1 = cs := by
  match cs, h with
  | [a, b], _ => rfl
set_option maxRecDepth 100000 in
theorem paramsPut_walk {H : Type} {enc : TypeId × Value → H} {base : Nat} {d0 d1 : DataW H} {p0 p1 : List MemPlace} (v0 v1 : Value) (w : World)
    (o0 : Value.okWide Tryz.prog w .any base 25 v0) (k0 : DataW.Trod enc Tryz.prog w 0 (fun _ => true) true 25 v0 d0 p0) (z0 : (d0.weights Tryz.prog 25).all (· ≤ reachBytes) = true)
    (o1 : Value.okWide Tryz.prog w .any base 53 v1) (k1 : DataW.Trod enc Tryz.prog w 0 (fun _ => true) true 53 v1 d1 p1) (z1 : (d1.weights Tryz.prog 53).all (· ≤ reachBytes) = true) :
    Calls Tryz.prog 4 #[v0, v1] w fun e w' => e = .returned (.bool true) ∧ Below w.heap.size w w' := by
  obtain ⟨f0, hf0⟩ := k0
  obtain ⟨A, n, c, ps, ep, hps, hnc⟩ := open_piecesC hf0 z0
  obtain ⟨av, nv, cv, rfl⟩ : ∃ av nv cv, v0 = .slice av nv cv := okWide_slice Tryz.underlying25 o0
  simp only [Value.cells] at ep
  have ev : Value.slice av nv cv = .slice A n c := by simpa using ep
  rw [ev]
  obtain ⟨cs0, rfl, hs0⟩ := okWide_agg (.inl ⟨_, Tryz.underlying53⟩) o1
  obtain ⟨f1, hf1⟩ := k1
  obtain ⟨hl, m, hp⟩ := open_struct Tryz.underlying53 hf1
  obtain ⟨y0, hy0, L0⟩ := hp 0 _ rfl
  obtain ⟨y1, hy1, L1⟩ := hp 1 _ rfl
  simp only at hy0 hy1 L1
  obtain ⟨t, et, wt⟩ := cell_int Tryz.underlying51 hy0
  obtain ⟨B, mm, cc, xs, eb, hsl⟩ := open_sl Tryz.underlying22 Tryz.underlying5 (by kernel_rfl) (by rw [show Tryz.prog.bytesOf 5 = 1 from by kernel_rfl]; omega) hy1 (L1 z1)
  obtain ⟨cs0⟩ := cs0
  simp only [Value.cells] at hl et eb
  rw [show Tryz.prog.cellsOf 53 = 2 by kernel_rfl] at hl
  rw [show Tryz.prog.cellsOf 51 = 1 by kernel_rfl] at et
  rw [show Tryz.prog.cellsOf 22 = 1 by kernel_rfl] at eb
  have e := two_parts cs0 hl
  rw [List.drop_zero] at et
  rw [et, eb] at e
  have hcs : cs0 = [.int .u16 t, .slice B mm cc] := e.symm
  rw [hcs]
  obtain rfl : xs.length = mm := hsl.rd.len
  exact pput_at A n c t B cc xs ps w hps hnc (wf_bounds_u16 wt) hsl.rd hsl.le hsl.nil (psSize_bound hps)
end Go.Proofs.YtlcnjdpfijgcdaaGreatDoor
