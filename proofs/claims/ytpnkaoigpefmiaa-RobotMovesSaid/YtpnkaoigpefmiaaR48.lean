/- What Put keeps; a Pick and a Put in a row: plain laws. -/
import Derived.Test.YtpnkaoigpefmiaaR47
namespace Go.Proofs.Ytpnkaoigpefmiaa
set_option linter.unusedVariables false
set_option linter.unusedSimpArgs false

theorem withOf_same (r : Rb) (k i : Int) (b : ByteArray) : (withOf r k i b).pos = r.pos ∧ (withOf r k i b).failed = r.failed ∧ (withOf r k i b).hand = r.hand := by
  unfold withOf
  by_cases z : k = 0
  · rw [if_pos z]; exact ⟨rfl, rfl, rfl⟩
  · rw [if_neg z]
    by_cases z2 : k = 2
    · rw [if_pos z2]; exact ⟨rfl, rfl, rfl⟩
    · rw [if_neg z2]; exact ⟨rfl, rfl, rfl⟩
/-- What Put gives where it works. -/
structure Placed (m : Md) (r : Rb) (k i : Int) (b : Rb) (n : Int) : Prop where
  valid : validR m r
  good : r.failed = false
  pos : (posOf m r k i).2 = true
  kind : k = 0 ∨ k = 1 ∨ k = 2
  hand0 : r.hand ≠ E0
  time : n = travOf m r.pos (posOf m r k i).1 + m.put
  at_ : b.pos = (posOf m r k i).1
  hand : b.hand = E0
  len : b.slots.length = r.slots.length
  counts : ∀ s, s ≠ E0 → cr b s + (if k = 1 then is1 r.hand s else 0) = cr r s
theorem placed {m : Md} {r : Rb} {k i : Int} (h : (putOf m r k i).2.2 = 0) : Placed m r k i (putOf m r k i).1 (putOf m r k i).2.1 := by
  by_cases he : (reachOf m r k i).2.2 = 0
  case neg =>
    exfalso
    unfold putOf at h; rw [if_pos he] at h; exact he h
  obtain ⟨hv, hf, hp, hk, hre⟩ := reach_ok he
  have he' : ¬ (reachOf m r k i).2.2 ≠ 0 := not_not_intro he
  by_cases hh : r.hand = E0
  · exfalso; unfold putOf at h; rw [if_neg he', if_pos hh] at h; cases h
  by_cases hk1 : k = 1
  · subst hk1
    have e : putOf m r 1 i = ({ r with pos := (posOf m r 1 i).1, hand := E0 }, travOf m r.pos (posOf m r 1 i).1 + m.put, 0) := by
      unfold putOf; rw [if_neg he', if_neg hh, if_pos rfl, hre]
    rw [e]
    refine ⟨hv, hf, hp, hk, hh, rfl, rfl, rfl, rfl, fun s hs => ?_⟩
    rw [cr_eq, cr_eq, if_pos rfl, is1_e hs]; rfl
  · have hk2 : k = 0 ∨ k = 2 := by omega
    by_cases hb : atOf r k i = E0
    case neg => exfalso; unfold putOf at h; rw [if_neg he', if_neg hh, if_neg hk1, if_pos hb] at h; cases h
    have e : putOf m r k i = ({ withOf r k i r.hand with pos := (posOf m r k i).1, hand := E0 }, travOf m r.pos (posOf m r k i).1 + m.put, 0) := by
      unfold putOf; rw [if_neg he', if_neg hh, if_neg hk1, if_neg (not_not_intro hb), hre]
      exact congrArg (fun x => (x, _, (0 : Int))) (withOf_pos r k i _ _ _)
    rw [e]
    refine ⟨hv, hf, hp, hk, hh, rfl, rfl, rfl, withOf_len r k i r.hand, fun s hs => ?_⟩
    have := cr_with r k i r.hand s hk2 (reach_range hp)
    rw [hb, is1_e hs, cr_eq, cr_eq, (withOf_same r k i r.hand).2.2] at this
    rw [if_neg hk1, cr_eq, cr_eq, is1_e hs]
    simp only
    omega
theorem picked_valid {m : Md} {r a : Rb} {k i n : Int} {b : ByteArray} (h : Picked m r k i b a n) : validR m a := by
  have hr := posOf_rail h.pos
  refine valid_of h.valid h.len (by rw [h.at_]; exact hr) fun s hs => ?_
  rw [h.counts s hs]
  have h1 := valid_cr h.valid s hs
  by_cases hk : k = 1
  · rw [if_pos hk]
    by_cases e : a.hand = s
    · have := h.new hk; rw [e] at this; rw [this, is1, if_pos e]; omega
    · rw [is1, if_neg e]; omega
  · rw [if_neg hk]; omega
theorem placed_valid {m : Md} {r b : Rb} {k i n : Int} (h : Placed m r k i b n) : validR m b := by
  have hr := posOf_rail h.pos
  refine valid_of h.valid h.len (by rw [h.at_]; exact hr) fun s hs => ?_
  have h1 := valid_cr h.valid s hs
  have h2 := h.counts s hs
  omega
theorem trav_self {m : Md} (p : Int) : travOf m p p = 0 := by
  unfold travOf
  by_cases h : onRail m p p
  · rw [if_pos h, if_pos (Int.le_refl _), Int.sub_self, Int.mul_zero]
  · rw [if_neg h]
theorem withOf_back (r : Rb) (k i p : Int) (hk : k = 0 ∨ k = 2) (hi : k = 0 → 0 ≤ i ∧ i.toNat < r.slots.length) (h0 : r.hand = E0) :
    ({ withOf { withOf r k i E0 with pos := p, hand := atOf r k i } k i (atOf r k i) with pos := p, hand := E0 } : Rb) = { r with pos := p } := by
  obtain ⟨p0, fl, ss, pt, ha⟩ := r
  dsimp only at h0 hi
  subst h0
  rcases hk with rfl | rfl
  · obtain ⟨h1, h2⟩ := hi rfl
    simp [withOf, atOf, h2]
  · simp [withOf, atOf]
theorem atOf_with (r : Rb) (k i p : Int) (h : ByteArray) (hk : k = 0 ∨ k = 2) (hi : k = 0 → 0 ≤ i ∧ i.toNat < r.slots.length) : atOf { withOf r k i E0 with pos := p, hand := h } k i = E0 := by
  rcases hk with rfl | rfl
  · obtain ⟨h1, h2⟩ := hi rfl
    simp [withOf, atOf, h2]
  · simp [withOf, atOf]
/-- Back where it was picked. -/
theorem put_back {m : Md} {r : Rb} {k i : Int} (h : (pickOf m r k i E0).2.2 = 0) :
    putOf m (pickOf m r k i E0).1 k i = ({ r with pos := (posOf m r k i).1 }, m.put, 0) ∧ (posOf m r k i).2 = true ∧ (pickOf m r k i E0).1.pos = (posOf m r k i).1 := by
  have P := picked h
  have hk1 : k ≠ 1 := by
    rintro rfl
    by_cases he : (reachOf m r 1 i).2.2 = 0
    · unfold pickOf at h; rw [if_neg (not_not_intro he), if_neg (not_not_intro P.hand0), if_pos rfl, if_pos (.inr rfl)] at h; cases h
    · unfold pickOf at h; rw [if_pos he] at h; exact he h
  have hk2 : k = 0 ∨ k = 2 := by have := P.kind; omega
  have hk3 : k ≠ 3 := by omega
  obtain ⟨ha, hae⟩ := P.robot hk1
  have hva := picked_valid P
  have hpo := posOf_any P.valid hva hk3 (i := i)
  refine ⟨?_, P.pos, P.at_⟩
  generalize (pickOf m r k i E0).1 = a at *
  have hre : reachOf m a k i = ({ a with pos := (posOf m r k i).1 }, 0, 0) := by
    unfold reachOf
    rw [if_neg (not_not_intro hva), if_neg (by rw [P.fine]; decide), hpo, if_neg (by rintro (x | x); exact hk3 x; rw [P.pos] at x; cases x), P.at_, trav_self]
  have hat : atOf a k i = E0 := by rw [hae]; exact atOf_with r k i _ _ hk2 (reach_range P.pos)
  unfold putOf
  rw [hre, if_neg (by simp), if_neg P.hand, if_neg hk1, if_neg (not_not_intro hat)]
  have e1 : withOf { ({ a with pos := (posOf m r k i).1 } : Rb) with hand := E0 } k i a.hand = { withOf a k i a.hand with pos := (posOf m r k i).1, hand := E0 } := withOf_pos a k i _ _ _
  have e2 : ({ withOf a k i a.hand with pos := (posOf m r k i).1, hand := E0 } : Rb) = { r with pos := (posOf m r k i).1 } := by
    have := withOf_back r k i (posOf m r k i).1 hk2 (reach_range P.pos) P.hand0
    rw [ha, ← hae] at this
    exact this
  show (withOf { ({ a with pos := (posOf m r k i).1 } : Rb) with hand := E0 } k i a.hand, 0 + m.put, (0 : Int)) = _
  rw [e1, e2, Int.zero_add]
end Go.Proofs.Ytpnkaoigpefmiaa
