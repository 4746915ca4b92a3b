/- What Pick and Put keep: plain laws. -/
import Derived.Test.YtpnkaoigpefmiaaR44
namespace Go.Proofs.Ytpnkaoigpefmiaa
set_option linter.unusedVariables false
set_option linter.unusedSimpArgs false

def is1 (a b : ByteArray) : Nat := if a = b then 1 else 0
theorem cnt_cons (a : ByteArray) (l : List ByteArray) (s : ByteArray) : cnt (a :: l) s = is1 a s + cnt l s := by
  unfold cnt is1
  by_cases h : a = s <;> simp [List.filter_cons, h]; omega
theorem cnt_nil (s : ByteArray) : cnt [] s = 0 := rfl
theorem cnt_append (l l' : List ByteArray) (s : ByteArray) : cnt (l ++ l') s = cnt l s + cnt l' s := by unfold cnt; simp
theorem cnt_set (l : List ByteArray) (j : Nat) (h : j < l.length) (y s : ByteArray) : cnt (l.set j y) s + is1 l[j] s = cnt l s + is1 y s := by
  induction l generalizing j with
  | nil => simp at h
  | cons a l ih =>
    cases j with
    | zero => simp only [List.set_cons_zero, cnt_cons, List.getElem_cons_zero]; omega
    | succ j =>
      have := ih j (by simpa using h)
      simp only [List.set_cons_succ, cnt_cons, List.getElem_cons_succ]; omega
theorem cnt_mem {l : List ByteArray} {s : ByteArray} (h : s ∈ l) : 1 ≤ cnt l s := by
  unfold cnt
  exact List.length_pos_iff.2 (List.ne_nil_of_mem (List.mem_filter.2 ⟨h, by simp⟩))
theorem mem_cnt {l : List ByteArray} {s : ByteArray} (h : 1 ≤ cnt l s) : s ∈ l := by
  unfold cnt at h
  obtain ⟨x, hx⟩ := List.exists_mem_of_length_pos (show 0 < _ from h)
  have := List.mem_filter.1 hx
  have e : x = s := by simpa using this.2
  rw [← e]; exact this.1
theorem once_pair (l : List ByteArray) : once l ↔ l.Pairwise (fun a b => b ≠ E0 → b ≠ a) := by
  rw [List.pairwise_iff_getElem]
  exact ⟨fun h i j hi hj hij h0 => h j hj i hij h0, fun h i hi k hk h0 => h k i (by omega) hi hk h0⟩
theorem once_cnt (l : List ByteArray) : once l ↔ ∀ s, s ≠ E0 → cnt l s ≤ 1 := by
  rw [once_pair]
  induction l with
  | nil => exact ⟨fun _ s _ => by rw [cnt_nil]; omega, fun _ => List.Pairwise.nil⟩
  | cons a l ih =>
    rw [List.pairwise_cons, ih]
    constructor
    · rintro ⟨h1, h2⟩ s hs
      rw [cnt_cons]
      unfold is1
      by_cases e : a = s
      · rw [if_pos e]
        have : ¬ 1 ≤ cnt l s := fun hc => h1 s (mem_cnt hc) hs e.symm
        omega
      · rw [if_neg e]; have := h2 s hs; omega
    · intro h
      refine ⟨fun b hb h0 e => ?_, fun s hs => ?_⟩
      · have h3 := h b h0
        have h4 := cnt_mem hb
        rw [cnt_cons, is1, if_pos e.symm] at h3
        omega
      · have := h s hs; rw [cnt_cons] at this; omega
/-- How often a barcode occurs in a robot. -/
def cr (r : Rb) (s : ByteArray) : Nat := cnt (allOf r) s
theorem cr_eq (r : Rb) (s : ByteArray) : cr r s = cnt r.slots s + is1 r.port s + is1 r.hand s := by
  unfold cr allOf; rw [cnt_append, cnt_cons, cnt_cons, cnt_nil]; omega
theorem cr_with (r : Rb) (k i : Int) (b s : ByteArray) (hk : k = 0 ∨ k = 2) (hi : k = 0 → 0 ≤ i ∧ i.toNat < r.slots.length) : cr (withOf r k i b) s + is1 (atOf r k i) s = cr r s + is1 b s := by
  rcases hk with rfl | rfl
  · obtain ⟨h0, h1⟩ := hi rfl
    have e : withOf r 0 i b = { r with slots := r.slots.set i.toNat b } := by unfold withOf; rw [if_pos rfl]
    have e2 : atOf r 0 i = r.slots[i.toNat] := by unfold atOf; rw [if_pos rfl]; simp [h1]
    have := cnt_set r.slots i.toNat h1 b s
    rw [e, e2, cr_eq, cr_eq]
    simp only
    omega
  · have e : withOf r 2 i b = { r with port := b } := by unfold withOf; rw [if_neg (by decide), if_pos rfl]
    have e2 : atOf r 2 i = r.port := by unfold atOf; rw [if_neg (by decide)]
    rw [e, e2, cr_eq, cr_eq]
    simp only
    omega
theorem valid_of {m : Md} {r r' : Rb} (h : validR m r) (hl : r'.slots.length = r.slots.length) (hp : 0 ≤ r'.pos ∧ r'.pos ≤ railOf m) (ho : ∀ s, s ≠ E0 → cr r' s ≤ 1) : validR m r' :=
  ⟨h.mok, by rw [hl]; exact h.len, hp, (once_cnt _).2 ho⟩
theorem valid_cr {m : Md} {r : Rb} (h : validR m r) : ∀ s, s ≠ E0 → cr r s ≤ 1 := (once_cnt _).1 h.one
theorem posOf_any {m : Md} {r r' : Rb} {k i : Int} (h : validR m r) (h' : validR m r') (hk : k ≠ 3) : posOf m r' k i = posOf m r k i := by
  unfold posOf
  rw [if_neg (not_not_intro h), if_neg (not_not_intro h')]
  have e : ¬ (k = 3 ∧ i = 0) := fun x => hk x.1
  rw [if_neg e, if_neg e]
/-- What Pick gives where it works. -/
structure Picked (m : Md) (r : Rb) (k i : Int) (b : ByteArray) (a : Rb) (n : Int) : Prop where
  valid : validR m r
  good : r.failed = false
  pos : (posOf m r k i).2 = true
  kind : k = 0 ∨ k = 1 ∨ k = 2
  hand0 : r.hand = E0
  time : n = travOf m r.pos (posOf m r k i).1 + m.pick
  at_ : a.pos = (posOf m r k i).1
  fine : a.failed = false
  hand : a.hand ≠ E0
  len : a.slots.length = r.slots.length
  counts : ∀ s, s ≠ E0 → cr a s = cr r s + (if k = 1 then is1 a.hand s else 0)
  new : k = 1 → cr r a.hand = 0
  robot : k ≠ 1 → atOf r k i = a.hand ∧ a = { withOf r k i E0 with pos := (posOf m r k i).1, hand := a.hand }
theorem find_cr {r : Rb} {b : ByteArray} (hb : b ≠ E0) (h : (findOf r b).2.2 = false) : cr r b = 0 := by
  have hz : ¬ b.size = 0 := fun e => hb (size_zero.1 e)
  unfold findOf at h
  rw [if_neg hz] at h
  have hn : b ∉ allOf r := by
    intro hm
    unfold allOf at hm
    by_cases h1 : b ∈ r.slots
    · have : r.slots.findIdx (fun s => decide (s = b)) < r.slots.length := List.findIdx_lt_length_of_exists ⟨b, h1, by simp⟩
      rw [if_pos this] at h; cases h
    · rw [if_neg (findIdx_none fun j hj e => h1 (by rw [← e]; exact List.getElem_mem hj))] at h
      rcases List.mem_append.1 hm with hm | hm
      · exact h1 hm
      · simp at hm
        rcases hm with e | e
        · rw [if_pos e.symm] at h; cases h
        · by_cases e2 : r.port = b
          · rw [if_pos e2] at h; cases h
          · rw [if_neg e2, if_pos e.symm] at h; cases h
  rcases Nat.eq_zero_or_pos (cr r b) with h0 | h0
  · exact h0
  · exact absurd (mem_cnt h0) hn
theorem is1_self (b : ByteArray) : is1 b b = 1 := if_pos rfl
theorem is1_e {s : ByteArray} (h : s ≠ E0) : is1 E0 s = 0 := if_neg fun e => h e.symm
theorem picked {m : Md} {r : Rb} {k i : Int} {b : ByteArray} (h : (pickOf m r k i b).2.2 = 0) : Picked m r k i b (pickOf m r k i b).1 (pickOf m r k i b).2.1 := by
  by_cases he : (reachOf m r k i).2.2 = 0
  case neg =>
    exfalso
    unfold pickOf at h; rw [if_pos he] at h; exact he h
  obtain ⟨hv, hf, hp, hk, hre⟩ := reach_ok he
  have he' : ¬ (reachOf m r k i).2.2 ≠ 0 := not_not_intro he
  by_cases hh : r.hand = E0
  case neg => exfalso; unfold pickOf at h; rw [if_neg he', if_pos hh] at h; cases h
  have hh' : ¬ r.hand ≠ E0 := not_not_intro hh
  by_cases hk1 : k = 1
  · subst hk1
    by_cases hb : (findOf r b).2.2 = true ∨ b = E0
    · exfalso; unfold pickOf at h; rw [if_neg he', if_neg hh', if_pos rfl, if_pos hb] at h; cases h
    · have e : pickOf m r 1 i b = ({ r with pos := (posOf m r 1 i).1, hand := b }, travOf m r.pos (posOf m r 1 i).1 + m.pick, 0) := by
        unfold pickOf; rw [if_neg he', if_neg hh', if_pos rfl, if_neg hb, hre]
      rw [e]
      have hb1 : b ≠ E0 := fun x => hb (.inr x)
      have hb2 : (findOf r b).2.2 = false := by
        cases hx : (findOf r b).2.2 with
        | false => rfl
        | true => exact absurd (.inl hx) hb
      refine ⟨hv, hf, hp, hk, hh, rfl, rfl, hf, hb1, rfl, fun s hs => ?_, fun _ => find_cr hb1 hb2, fun x => absurd rfl x⟩
      rw [cr_eq, cr_eq, if_pos rfl, hh, is1_e hs]
      rfl
  · have hk2 : k = 0 ∨ k = 2 := by omega
    by_cases hb : atOf r k i = E0
    · exfalso; unfold pickOf at h; rw [if_neg he', if_neg hh', if_neg hk1, if_pos hb] at h; cases h
    · have e : pickOf m r k i b = ({ withOf r k i E0 with pos := (posOf m r k i).1, hand := atOf r k i }, travOf m r.pos (posOf m r k i).1 + m.pick, 0) := by
        unfold pickOf; rw [if_neg he', if_neg hh', if_neg hk1, if_neg hb, hre]
        exact congrArg (fun x => (x, _, (0 : Int))) (withOf_pos r k i _ _ _)
      rw [e]
      have hfw : (withOf r k i E0).failed = false := by
        unfold withOf
        by_cases z : k = 0
        · rw [if_pos z]; exact hf
        · rw [if_neg z]
          by_cases z2 : k = 2
          · rw [if_pos z2]; exact hf
          · rw [if_neg z2]; exact hf
      refine ⟨hv, hf, hp, hk, hh, rfl, rfl, hfw, hb, withOf_len r k i E0, fun s hs => ?_, fun x => absurd x hk1, fun _ => ⟨rfl, rfl⟩⟩
      have := cr_with r k i E0 s hk2 (reach_range hp)
      have hhw : (withOf r k i E0).hand = r.hand := by
        unfold withOf
        by_cases z : k = 0
        · rw [if_pos z]
        · rw [if_neg z]
          by_cases z2 : k = 2
          · rw [if_pos z2]
          · rw [if_neg z2]
      rw [if_neg hk1, cr_eq]
      rw [cr_eq, is1_e hs, hhw, hh, is1_e hs] at this
      simp only
      omega
end Go.Proofs.Ytpnkaoigpefmiaa
