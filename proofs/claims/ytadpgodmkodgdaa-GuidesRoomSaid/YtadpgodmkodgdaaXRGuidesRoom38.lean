/- What is relayed tells where it came from: in plain lists; A table of guides, in plain lists: the table's places beside the reference's list. -/
import Derived.Test.YtadpgodmkodgdaaXRGuidesRoom36
import Derived.Test.YtadpgodmkodgdaaXRGuidesRoom37
import Derived.Test.YtadpgodmkodgdaaBase
namespace Go.Proofs.Ytadpgodmkodgdaa
set_option linter.unusedSimpArgs false
set_option linter.unusedVariables false

theorem cnt_be4 {x : Int} (hx : 0 ≤ x ∧ x ≤ 4294967295) : cntV (be x 4) 4 = x ∧ cntE 4 = 0 := by
  have h : told (be x 4) = x := told_be 4 x hx.1 (by have e : pow256 4 = 4294967296 := by decide
                                                     omega)
  refine ⟨?_, by simp [cntE]⟩
  rw [cntV, if_pos rfl, List.take_of_length_le (by rw [be_length]; exact Nat.le_refl _), h]
theorem putE_one (b : List Int) (h : b.length = 4) : putE [(65498, b)] = 0 := by
  have hp : (pieces [(65498, b)]).length = 8 := by
    rw [pieces, pieces, List.append_nil, pieceB_length, h]; rfl
  unfold putE
  rw [if_neg (by simp [rises]), if_neg (by simp), if_neg (by simp [h]), if_neg (by rw [hp]; omega)]
theorem putE_two (b m : List Int) (h : b.length = 4) (hm : m.length = 32) : putE [(65498, b), (65502, m)] = 0 ∧ (pieces [(65498, b), (65502, m)]).length = 48 := by
  have hp : (pieces [(65498, b), (65502, m)]).length = 48 := by
    rw [pieces, pieces, pieces, List.append_nil, List.length_append, pieceB_length, pieceB_length, h, hm]; rfl
  refine ⟨?_, hp⟩
  unfold putE
  rw [if_neg (by simp [rises]), if_neg (by simp), if_neg (by simp [h, hm]), if_neg (by rw [hp]; omega)]
theorem pkE_one (b : List Int) (h : b.length = 4) : pkE 1 [(65498, b)] = 0 := by
  have hp : (pieces [(65498, b)]).length = 8 := by
    rw [pieces, pieces, List.append_nil, pieceB_length, h]; rfl
  rw [pkE, if_pos (by omega), if_pos (putE_one b h), if_neg (by rw [hp]; omega)]
theorem pkE_two (b m : List Int) (h : b.length = 4) (hm : m.length = 32) : pkE 1 [(65498, b), (65502, m)] = 0 := by
  obtain ⟨h1, h2⟩ := putE_two b m h hm
  rw [pkE, if_pos (by omega), if_pos h1, if_neg (by rw [h2]; omega)]
theorem onL_one (key f t b : List Int) : onL key 1 f t [(65498, b)] 65502 = [(65498, b), (65502, covB key 1 f t [(65498, b)])] := by
  rw [onL, withL]
  simp [paBelow, paAbove]
theorem withE_one (b : List Int) : withE [(65498, b)] 65502 = 0 := by
  unfold withE
  rw [if_neg (by simp [rises]), if_neg (by omega), if_neg (by simp [paFind]), if_neg (by simp)]
theorem onE_one (key f t b : List Int) (h : b.length = 4) : onE key 1 f t [(65498, b)] 65502 = 0 := by
  unfold onE
  rw [if_neg (by simp), if_neg (by rw [pkE_one b h]; simp), if_neg (by rw [withE_one]; simp), onL_one]
  exact pkE_two b _ h (macOf_length _ _)
theorem org_back (key f t : List Int) (fr : Int) (hf : 0 ≤ fr ∧ fr ≤ 4294967295) (h0 : fr ≠ 0) :
    orgR key 1 f t [(65498, be fr 4), (65502, covB key 1 f t [(65498, be fr 4)])] = (fr, 0) := by
  obtain ⟨h1, h2⟩ := cnt_be4 hf
  have hl : (be fr 4).length = 4 := be_length 4 fr
  have hb : paBelow [(65498, be fr 4), (65502, covB key 1 f t [(65498, be fr 4)])] 65502 = [(65498, be fr 4)] := by simp [paBelow]
  have hfi : paFind [(65498, be fr 4), (65502, covB key 1 f t [(65498, be fr 4)])] 65502 = some (covB key 1 f t [(65498, be fr 4)]) := by simp [paFind]
  have hi : isV key 1 f t [(65498, be fr 4), (65502, covB key 1 f t [(65498, be fr 4)])] 65502 = true := by
    rw [isV, hfi]
    simp only [hb, pkE_one _ hl, decide_true, Bool.and_self]
  unfold orgR
  rw [if_neg (by omega), if_neg (by simp)]
  simp only [List.getElem?_cons_zero, Option.getD_some, hl]
  rw [if_neg (by rw [h2]; simp), h1, if_neg h0, if_pos hi]
theorem org_none (key f t : List Int) : orgR key 1 f t [] = (0, 4) := by
  unfold orgR
  rw [if_neg (by omega), if_pos (by simp)]
end Go.Proofs.Ytadpgodmkodgdaa

namespace Go.Proofs.Ytadpgodmkodgdaa
set_option linter.unusedSimpArgs false
set_option linter.unusedVariables false

/-- One who is guided: a tag, a spot, ticks. -/
structure Gd where
  tag : List Int
  spot : Int
  ticks : Int
/-- Is the place taken? -/
def Gd.on (e : Gd) : Bool := decide (0 < e.ticks)
/-- The places that are taken. -/
def taken (a : List Gd) : List Gd := a.filter Gd.on
/-- The place of a tag. -/
def isTag (tag : List Int) (e : Gd) : Bool := e.on && decide (e.tag = tag)
def free (e : Gd) : Bool := decide (e.ticks = 0)
/-- What the reference leaves without a tag. -/
def without (l : List Gd) (tag : List Int) : List Gd := l.filter (fun e => decide (e.tag ≠ tag))
/-- The table and the reference's list tell the same. -/
structure Alike (a l : List Gd) : Prop where
  len : a.length = 8
  nat : ∀ e ∈ a, 0 ≤ e.ticks ∧ e.ticks ≤ 256
  perm : (taken a).Perm l
  unlike : (l.map Gd.tag).Nodup

theorem Alike.on {a l : List Gd} (h : Alike a l) : ∀ e ∈ l, e.on = true := fun e he => by
  have := h.perm.mem_iff.2 he
  exact (List.mem_filter.1 this).2
theorem Alike.length {a l : List Gd} (h : Alike a l) : l.length = (taken a).length := h.perm.length_eq.symm
theorem taken_le (a : List Gd) : (taken a).length ≤ a.length := List.length_filter_le _ _
/-- In a list of unlike tags one alone has a tag. -/
theorem one_tag : ∀ {l : List Gd}, (l.map Gd.tag).Nodup → ∀ {x y : Gd}, x ∈ l → y ∈ l → x.tag = y.tag → x = y
  | [], _, x, y, hx, _, _ => by simp at hx
  | e :: l, h, x, y, hx, hy, he => by
    simp only [List.map_cons, List.nodup_cons] at h
    rcases List.mem_cons.1 hx with rfl | hx
    · rcases List.mem_cons.1 hy with rfl | hy
      · rfl
      · exact absurd (List.mem_map.2 ⟨y, hy, he.symm⟩) h.1
    · rcases List.mem_cons.1 hy with hy | hy
      · rw [hy] at he; exact absurd (List.mem_map.2 ⟨x, hx, he⟩) h.1
      · exact one_tag h.2 hx hy he
/-- Without a tag that is there: one fewer; that is not: as many. -/
theorem without_length : ∀ {l : List Gd}, (l.map Gd.tag).Nodup → ∀ (tag : List Int), (without l tag).length + (if ∃ e ∈ l, e.tag = tag then 1 else 0) = l.length
  | [], _, tag => by simp [without]
  | e :: l, h, tag => by
    simp only [List.map_cons, List.nodup_cons] at h
    have ih := without_length h.2 tag
    by_cases he : e.tag = tag
    · have hno : ¬ ∃ x ∈ l, x.tag = tag := fun ⟨x, hx, hxt⟩ => h.1 (List.mem_map.2 ⟨x, hx, hxt.trans he.symm⟩)
      rw [if_neg hno] at ih
      rw [if_pos ⟨e, by simp, he⟩]
      simp only [without, List.filter_cons, he, ne_eq, not_true_eq_false, decide_false, Bool.false_eq_true, if_false, List.length_cons]
      simp only [without, ne_eq] at ih
      omega
    · have hiff : (∃ x ∈ e :: l, x.tag = tag) ↔ ∃ x ∈ l, x.tag = tag := ⟨fun ⟨x, hx, hxt⟩ => by
        rcases List.mem_cons.1 hx with rfl | hx
        · exact absurd hxt he
        · exact ⟨x, hx, hxt⟩, fun ⟨x, hx, hxt⟩ => ⟨x, by simp [hx], hxt⟩⟩
      have hw : without (e :: l) tag = e :: without l tag := by simp [without, he]
      rw [hw, List.length_cons, List.length_cons]
      by_cases hx : ∃ x ∈ l, x.tag = tag
      · rw [if_pos (hiff.2 hx)]; rw [if_pos hx] at ih; omega
      · rw [if_neg (fun h => hx (hiff.1 h))]; rw [if_neg hx] at ih; omega
/-- A place is free as long as fewer than all are taken. -/
theorem free_place {a : List Gd} (hn : ∀ e ∈ a, 0 ≤ e.ticks ∧ e.ticks ≤ 256) : (∃ e ∈ a, free e = true) ↔ (taken a).length < a.length := by
  constructor
  · rintro ⟨e, he, hf⟩
    unfold taken
    rw [List.length_filter_lt_length_iff_exists]
    refine ⟨e, he, ?_⟩
    simp only [free, decide_eq_true_eq] at hf
    simp [Gd.on, hf]
  · intro h
    unfold taken at h
    rw [List.length_filter_lt_length_iff_exists] at h
    obtain ⟨e, he, hf⟩ := h
    refine ⟨e, he, ?_⟩
    have := hn e he
    simp only [Gd.on, Bool.not_eq_true, decide_eq_false_iff_not] at hf
    simp only [free, decide_eq_true_eq]
    omega
theorem mem_taken {a l : List Gd} (h : Alike a l) (tag : List Int) : (∃ e ∈ a, isTag tag e = true) ↔ ∃ e ∈ l, e.tag = tag := by
  constructor
  · rintro ⟨e, he, hi⟩
    simp only [isTag, Bool.and_eq_true, decide_eq_true_eq] at hi
    exact ⟨e, h.perm.mem_iff.1 (List.mem_filter.2 ⟨he, hi.1⟩), hi.2⟩
  · rintro ⟨e, he, ht⟩
    have hm := List.mem_filter.1 (h.perm.mem_iff.2 he)
    exact ⟨e, hm.1, by simp [isTag, hm.2, ht]⟩
/-- There is room just where the reference has some. -/
theorem room_alike {a l : List Gd} (h : Alike a l) (tag : List Int) : ((∃ e ∈ a, isTag tag e = true) ∨ ∃ e ∈ a, free e = true) ↔ (without l tag).length < 8 := by
  have hw := without_length h.unlike tag
  have hf := free_place h.nat
  rw [h.len, ← h.length] at hf
  have hle := taken_le a
  rw [← h.length, h.len] at hle
  rw [mem_taken h, hf]
  by_cases hx : ∃ e ∈ l, e.tag = tag
  · rw [if_pos hx] at hw
    exact ⟨fun _ => by omega, fun _ => .inl hx⟩
  · rw [if_neg hx] at hw
    exact ⟨fun h => by rcases h with h | h; exact absurd h hx; omega, fun h => .inr (by omega)⟩
/-- The one that has a tag is the same one. -/
theorem same_entry {a l : List Gd} (h : Alike a l) {tag : List Int} {e x : Gd} (he : e ∈ a) (hi : isTag tag e = true) (hx : x ∈ l) (hxt : x.tag = tag) : e = x := by
  simp only [isTag, Bool.and_eq_true, decide_eq_true_eq] at hi
  exact one_tag h.unlike (h.perm.mem_iff.1 (List.mem_filter.2 ⟨he, hi.1⟩)) hx (hi.2.trans hxt.symm)

/-- One tick in the table, in the reference's list. -/
def tickI (e : Gd) : Gd := if e.ticks = 0 then e else if e.ticks = 1 then ⟨List.replicate 16 0, 0, 0⟩ else ⟨e.tag, e.spot, e.ticks - 1⟩
def dec (e : Gd) : Gd := ⟨e.tag, e.spot, e.ticks - 1⟩
theorem taken_tick : ∀ (a : List Gd), (∀ e ∈ a, 0 ≤ e.ticks ∧ e.ticks ≤ 256) → taken (a.map tickI) = ((taken a).map dec).filter Gd.on
  | [], _ => rfl
  | e :: a, h => by
    have ih := taken_tick a (fun x hx => h x (by simp [hx]))
    have he := h e (by simp)
    simp only [taken] at ih ⊢
    rw [List.map_cons, List.filter_cons, List.filter_cons, ih]
    by_cases h0 : e.ticks = 0
    · have e1 : Gd.on (tickI e) = false := by simp [tickI, h0, Gd.on]
      have e2 : Gd.on e = false := by simp [Gd.on, h0]
      rw [e1, e2]; simp
    · by_cases h1 : e.ticks = 1
      · have e1 : Gd.on (tickI e) = false := by simp [tickI, h1, Gd.on]
        have e2 : Gd.on e = true := by simp [Gd.on, h1]
        have e3 : Gd.on (dec e) = false := by simp [Gd.on, dec, h1]
        rw [e1, e2]
        simp [List.filter_cons, e3]
      · have e0 : tickI e = dec e := by simp [tickI, h0, h1, dec]
        have e2 : Gd.on e = true := by simp [Gd.on]; omega
        have e3 : Gd.on (dec e) = true := by simp [Gd.on, dec]; omega
        rw [e0, e2, e3]
        simp [List.filter_cons, e3]
theorem tick_alike {a l : List Gd} (h : Alike a l) : Alike (a.map tickI) ((l.map dec).filter Gd.on) := by
  refine ⟨by simpa using h.len, ?_, ?_, ?_⟩
  · intro e he
    obtain ⟨x, hx, rfl⟩ := List.mem_map.1 he
    have := h.nat x hx
    unfold tickI
    split
    · exact this
    · split
      · simp
      · simp only; omega
  · rw [taken_tick a h.nat]
    exact (h.perm.map dec).filter Gd.on
  · have hs : ((l.map dec).filter Gd.on).map Gd.tag |>.Sublist (l.map Gd.tag) := by
      have h1 := (List.filter_sublist (p := Gd.on) (l := l.map dec)).map Gd.tag
      have h2 : (l.map dec).map Gd.tag = l.map Gd.tag := by rw [List.map_map]; rfl
      rwa [h2] at h1
    exact hs.nodup h.unlike
/-- One is put. -/
theorem put_alike {a l : List Gd} (h : Alike a l) (tag : List Int) (spot ticks : Int) (ht : 1 ≤ ticks ∧ ticks ≤ 256) (i : Nat) (x : Gd) (hx : a[i]? = some x)
    (hp : isTag tag x = true ∨ (free x = true ∧ ¬ ∃ e ∈ a, isTag tag e = true)) : Alike (a.set i ⟨tag, spot, ticks⟩) (without l tag ++ [⟨tag, spot, ticks⟩]) := by
  have hi : i < a.length := (List.getElem?_eq_some_iff.1 hx).1
  have hxe : a[i] = x := (List.getElem?_eq_some_iff.1 hx).2
  have hxm : x ∈ a := List.mem_of_getElem? hx
  have hsplit : a = a.take i ++ x :: a.drop (i + 1) := by rw [← hxe, ← List.drop_eq_getElem_cons hi, List.take_append_drop]
  have hset : a.set i ⟨tag, spot, ticks⟩ = a.take i ++ ⟨tag, spot, ticks⟩ :: a.drop (i + 1) := by rw [List.set_eq_take_append_cons_drop, if_pos hi]
  have hon : Gd.on ⟨tag, spot, ticks⟩ = true := by simp [Gd.on]; omega
  have hnd : ((taken a).map Gd.tag).Nodup := (h.perm.map Gd.tag).nodup_iff.2 h.unlike
  have hta : taken a = taken (a.take i) ++ ((if x.on = true then [x] else []) ++ taken (a.drop (i + 1))) := by
    have h1 := congrArg taken hsplit
    rw [h1]
    simp only [taken, List.filter_append, List.filter_cons]
    split <;> simp
  have hnot : ∀ e ∈ a.take i ++ a.drop (i + 1), e.on = true → e.tag ≠ tag := by
    intro e he hoe het
    rcases hp with hp | ⟨_, hp⟩
    · simp only [isTag, Bool.and_eq_true, decide_eq_true_eq] at hp
      rw [hta, if_pos hp.1] at hnd
      have hm : e ∈ taken (a.take i) ++ taken (a.drop (i + 1)) := by
        rcases List.mem_append.1 he with he | he
        · exact List.mem_append.2 (.inl (List.mem_filter.2 ⟨he, hoe⟩))
        · exact List.mem_append.2 (.inr (List.mem_filter.2 ⟨he, hoe⟩))
      have hpm : (taken (a.take i) ++ ([x] ++ taken (a.drop (i + 1)))).Perm (x :: (taken (a.take i) ++ taken (a.drop (i + 1)))) := List.perm_middle
      have hn2 := (hpm.map Gd.tag).nodup_iff.1 hnd
      simp only [List.map_cons, List.nodup_cons] at hn2
      exact hn2.1 (List.mem_map.2 ⟨e, hm, het.trans hp.2.symm⟩)
    · refine hp ⟨e, ?_, by simp [isTag, hoe, het]⟩
      rcases List.mem_append.1 he with he | he
      · exact List.mem_of_mem_take he
      · exact List.mem_of_mem_drop he
  have hwo : (without (taken a) tag) = taken (a.take i ++ a.drop (i + 1)) := by
    have hid : without (taken (a.take i ++ a.drop (i + 1))) tag = taken (a.take i ++ a.drop (i + 1)) := by
      refine List.filter_eq_self.2 (fun e he => ?_)
      have hm := List.mem_filter.1 he
      simpa using hnot e hm.1 hm.2
    rw [← hid, hta]
    have hx0 : without (if x.on = true then [x] else []) tag = [] := by
      rcases hp with hp | ⟨hp, _⟩
      · simp only [isTag, Bool.and_eq_true, decide_eq_true_eq] at hp
        simp [without, hp.1, hp.2]
      · have : x.on = false := by simp only [free, decide_eq_true_eq] at hp; simp [Gd.on, hp]
        simp [without, this]
    have e1 : taken (a.take i ++ a.drop (i + 1)) = taken (a.take i) ++ taken (a.drop (i + 1)) := by simp [taken]
    rw [e1]
    simp only [without, List.filter_append] at hx0 ⊢
    rw [hx0]; rfl
  refine ⟨by simpa using h.len, ?_, ?_, ?_⟩
  · intro e he
    rcases List.mem_or_eq_of_mem_set he with he | rfl
    · exact h.nat e he
    · exact ⟨by simp only; omega, by simp only; omega⟩
  · have h1 : (without l tag).Perm (without (taken a) tag) := (h.perm.symm.filter _)
    rw [hset, taken, List.filter_append, List.filter_cons, hon]
    rw [hwo, taken, List.filter_append] at h1
    simp only [if_true]
    exact (List.perm_middle.trans (List.perm_append_singleton _ _).symm).trans (h1.symm.append_right _)
  · rw [List.map_append, List.nodup_append]
    refine ⟨(List.filter_sublist.map Gd.tag).nodup h.unlike, by simp, ?_⟩
    intro t ht1 t' ht2 e
    obtain ⟨y, hy, rfl⟩ := List.mem_map.1 ht1
    simp only [List.map_cons, List.map_nil, List.mem_cons, List.not_mem_nil, or_false] at ht2
    have := (List.mem_filter.1 hy).2
    simp at this
    exact this (e.trans ht2)
end Go.Proofs.Ytadpgodmkodgdaa
