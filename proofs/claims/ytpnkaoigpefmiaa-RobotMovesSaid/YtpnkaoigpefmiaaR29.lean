/- Pick from a slot. -/
import Derived.Test.YtpnkaoigpefmiaaR28
namespace Go.Proofs.Ytpnkaoigpefmiaa
open Go.RowKit
set_option linter.unusedVariables false
set_option linter.unusedSimpArgs false

theorem own_addr {W : World} {base n c : Nat} {a : Option Addr} {xs : List Value} (h : W.ownsRow base 9 1 (.slice a n c) n xs) (hn : 0 < n) : ∃ g, a = some ⟨g, 0, none⟩ ∧ base ≤ g ∧ g < W.heap.size := by
  have hl := h.lt
  rcases h.2 with ⟨_, h2⟩ | ⟨g, cap, cur, h1, h2, h3, _⟩
  · omega
  · injection h1 with h1 _ _
    subst h1
    exact ⟨g, rfl, h2, (hl g rfl).2⟩
theorem ownsRow_other {W : World} {base B j n g c size : Nat} {e : TypeId} {u : Value} {xs : List Value} (h : W.ownsRow base e size (.slice (some ⟨g, 0, none⟩) n c) n xs) (hB : B ≠ g) : (W.setCell ⟨B, j, none⟩ u).ownsRow base e size (.slice (some ⟨g, 0, none⟩) n c) n xs := by
  refine ⟨h.1, ?_⟩
  rcases h.2 with h | ⟨g', cap, cur, h1, h2, h3, h4⟩
  · exact .inl h
  · have hg : g = g' := by simp at h1; exact h1.1
    subst hg
    exact .inr ⟨g, cap, cur, h1, h2, (Below.heap_setCell W ⟨B, j, none⟩ u g (by show g ≠ B; exact Ne.symm hB)).trans h3, h4⟩
theorem cell_slot' (B : Nat) (i n c : Nat) (g : Nat) (w : World) (hB : B < w.heap.size) (hi : i < n) (hn : n ≤ 1000000) (hs : w.cell? ⟨B, 2, none⟩ = some (.slice (some ⟨g, 0, none⟩) n c)) :
    Calls Try.prog 31 #[.pointer (some ⟨B, 0, none⟩), .agg #[.int .i64 0, .int .i64 i]] w fun e w' => e = .returned (.pointer (some ⟨g, i, none⟩)) ∧ Below w.heap.size w w' ∧ w'.heap.size = w.heap.size + 1 := by
  have := cell_slot B i n c ⟨g, 0, none⟩ w hB hi hn hs
  rw [add_at] at this; exact this
set_option maxRecDepth 100000 in
set_option maxHeartbeats 400000 in
theorem pick_slot_none (m : Md) (r : Rb) (a : Option Addr) (c : Nat) (i : Nat) (b : ByteArray) (w : World) (hr : RobIn w r a c)
    (hi0 : -9223372036854775808 ≤ (i : Int)) (hi1 : (i : Int) ≤ 9223372036854775807) (p t : Int) (hre : reachOf m r 0 i = ({ r with pos := p }, t, 0)) (ht : 0 ≤ t ∧ t ≤ 2000000000) (hm : 0 ≤ m.pick ∧ m.pick ≤ 1000000) (hh : r.hand = E0) (hlen : r.slots.length ≤ 1000000) (hil : i < r.slots.length) (hbe : r.slots[i] = E0) :
    Calls Try.prog 10 #[m.val, r.val a c, .agg #[.int .i64 0, .int .i64 i], .string b] w (GivesR w (R0, 0, 11)) := by
  obtain ⟨f0, f1, f2, f3, f4, f5, f6⟩ := m
  obtain ⟨p0, fl, ss, pt, ha⟩ := r
  have X0 := B4.start w f0 f1 f2 f3 f4 f5 f6 ⟨p0, fl, ss, pt, ha⟩ a c 0 i
  have V := Lib.hid (reach_any ⟨f0, f1, f2, f3, f4, f5, f6⟩ ⟨p0, fl, ss, pt, ha⟩ a c 0 i _ (hr.below X0.low) hi0 hi1)
  have HX0 := Lib.hid X0
  rw [hre] at V
  clear X0 hre
  have t0 := ht.1
  have t1 := ht.2
  have u0 := hm.1
  have u1 := hm.2
  dsimp only at u0 u1
  clear ht hm
  dsimp only at hh hbe hil hlen
  subst hh
  clear hr
  unfold Md.val Rb.val E0 at *
  go_enter Try.func10, Try.ntmps10
  go_wp2_with fail
  refine V.out.mono ?_
  rintro e w1 ⟨a1, c1, rfl, hown, hb1⟩
  have X1 := HX0.out.next hb1
  have hlt := X1.z.lt
  have HX1 := Lib.hid X1
  have k1 : w.heap.size + 1 < w1.heap.size := by omega
  have k2 : w.heap.size + 1 + 1 < w1.heap.size := by omega
  have k3 : w.heap.size + 1 + 1 + 1 < w1.heap.size := by omega
  have k4 : w.heap.size + 2 < w1.heap.size := by omega
  obtain ⟨b0, b1, b2, b3, b4⟩ := X1.r.at5
  obtain ⟨m0, m1, m2, m3, m4, m5, m6, m7⟩ := X1.m
  have j0 := X1.e.g0
  have j1 := X1.e.g1
  simp only [World.size_alloc] at hown
  dsimp only [Rb.val] at b0 b1 b2 b3 b4 hown ⊢
  try unfold E0 at b4
  have hpos : 0 < ss.length := by omega
  obtain ⟨g, rfl, hg0, hg1⟩ := own_addr hown hpos
  have HOW := Lib.hid hown
  clear HX0 V hown hb1
  go_wp2_with fail
  refine (cell_slot' w1.heap.size i ss.length c1 g _ (by simp) hil hlen (by rw [World.cell?_alloc_at _ _ _ _ rfl]; rfl)).mono ?_
  rintro e w2 ⟨rfl, hb2, hs2⟩
  have X2 := (X1.next (below_alloc (Below.refl _ _) _)).next hb2
  have N2 := (Blk.new w1 26 #[.int .i64 p, .bool fl, .slice (some ⟨g, 0, none⟩) ss.length c1, .string pt, .string E0]).below hb2
  have O2 := ownsRow_below (HOW.out.alloc _) hb2
  have hs2 : w2.heap.size = w1.heap.size + 1 + 1 := by rw [hs2]; simp
  have dv : w2.cell? ⟨g, i, none⟩ = some (.string ss[i]) := by rw [O2.cellAt i (by omega)]; simp [hil]
  have df := O2.frozenAt i
  rw [hbe] at dv
  try unfold E0 at dv
  have l3 : w.heap.size + 1 + 1 + 1 < w2.heap.size := by omega
  clear X1 N2 O2
  clear HOW
  have HE := Lib.hid ((X2.z.five (.int .i64 0) (.bool false) (.slice none 0 0) (.string E0) (.string E0))).at5
  have HL5 := Lib.hid (below_five X2.low (by omega : w.heap.size ≤ w.heap.size + 3) (.int .i64 0) (.bool false) (.slice none 0 0) (.string E0) (.string E0))
  obtain ⟨c0, c1', c2, c3, c4⟩ := X2.z.at5
  have hz := fun j => X2.z.free j
  unfold E0 at c3 c4
  clear X2 HX1 hb2 hbe
  go_wp2
  obtain ⟨g0, g1, g2, g3, g4⟩ := HE.out
  unfold E0 at g0 g1 g2 g3 g4
  rw [show w.heap.size + 3 = w.heap.size + 1 + 1 + 1 from rfl] at g0 g1 g2 g3 g4
  refine bodyPost_ret (v := .tuple #[.agg #[.int .i64 0, .bool false, .slice none 0 0, .string E0, .string E0], .int .i64 0, .int .i64 11]) (by simp [results, Try.results10, go_sem, E0, g0, g1, g2, g3, g4]) rfl ?_
  exact givesR0 HL5.out
set_option maxRecDepth 100000 in
set_option maxHeartbeats 400000 in
theorem pick_slot (m : Md) (r : Rb) (a : Option Addr) (c : Nat) (i : Nat) (b : ByteArray) (w : World) (hr : RobIn w r a c)
    (hi0 : -9223372036854775808 ≤ (i : Int)) (hi1 : (i : Int) ≤ 9223372036854775807) (p t : Int) (hre : reachOf m r 0 i = ({ r with pos := p }, t, 0)) (ht : 0 ≤ t ∧ t ≤ 2000000000) (hm : 0 ≤ m.pick ∧ m.pick ≤ 1000000) (hh : r.hand = E0) (hlen : r.slots.length ≤ 1000000) (hil : i < r.slots.length) (hbe : r.slots[i] ≠ E0) :
    Calls Try.prog 10 #[m.val, r.val a c, .agg #[.int .i64 0, .int .i64 i], .string b] w (GivesR w ({ r with pos := p, slots := r.slots.set i E0, hand := r.slots[i] }, t + m.pick, 0)) := by
  obtain ⟨f0, f1, f2, f3, f4, f5, f6⟩ := m
  obtain ⟨p0, fl, ss, pt, ha⟩ := r
  have X0 := B4.start w f0 f1 f2 f3 f4 f5 f6 ⟨p0, fl, ss, pt, ha⟩ a c 0 i
  have V := Lib.hid (reach_any ⟨f0, f1, f2, f3, f4, f5, f6⟩ ⟨p0, fl, ss, pt, ha⟩ a c 0 i _ (hr.below X0.low) hi0 hi1)
  have HX0 := Lib.hid X0
  rw [hre] at V
  clear X0 hre
  have t0 := ht.1
  have t1 := ht.2
  have u0 := hm.1
  have u1 := hm.2
  dsimp only at u0 u1
  clear ht hm
  have q5 := ne_isEmpty hbe
  dsimp only at hh hil hlen q5
  subst hh
  clear hr hbe
  unfold Md.val Rb.val E0 at *
  go_enter Try.func10, Try.ntmps10
  go_wp2_with fail
  refine V.out.mono ?_
  rintro e w1 ⟨a1, c1, rfl, hown, hb1⟩
  have X1 := HX0.out.next hb1
  have hlt := X1.z.lt
  have HX1 := Lib.hid X1
  have k1 : w.heap.size + 1 < w1.heap.size := by omega
  have k2 : w.heap.size + 1 + 1 < w1.heap.size := by omega
  have k3 : w.heap.size + 1 + 1 + 1 < w1.heap.size := by omega
  have k4 : w.heap.size + 2 < w1.heap.size := by omega
  obtain ⟨b0, b1, b2, b3, b4⟩ := X1.r.at5
  obtain ⟨m0, m1, m2, m3, m4, m5, m6, m7⟩ := X1.m
  have j0 := X1.e.g0
  have j1 := X1.e.g1
  simp only [World.size_alloc] at hown
  dsimp only [Rb.val] at b0 b1 b2 b3 b4 hown ⊢
  try unfold E0 at b4
  have hpos : 0 < ss.length := by omega
  obtain ⟨g, rfl, hg0, hg1⟩ := own_addr hown hpos
  have HOW := Lib.hid hown
  clear HX0 V hown hb1
  go_wp2_with fail
  refine (cell_slot' w1.heap.size i ss.length c1 g _ (by simp) hil hlen (by rw [World.cell?_alloc_at _ _ _ _ rfl]; rfl)).mono ?_
  rintro e w2 ⟨rfl, hb2, hs2⟩
  have X2 := (X1.next (below_alloc (Below.refl _ _) _)).next hb2
  have N2 := (Blk.new w1 26 #[.int .i64 p, .bool fl, .slice (some ⟨g, 0, none⟩) ss.length c1, .string pt, .string E0]).below hb2
  have O2 := ownsRow_below (HOW.out.alloc _) hb2
  have hs2 : w2.heap.size = w1.heap.size + 1 + 1 := by rw [hs2]; simp
  have dv : w2.cell? ⟨g, i, none⟩ = some (.string ss[i]) := by rw [O2.cellAt i (by omega)]; simp [hil]
  have df := O2.frozenAt i
  generalize hsi : ss[i] = s at *
  have HS := Lib.hid hsi
  clear hsi
  have hne : w1.heap.size ≠ g := by omega
  have hne' : g ≠ w1.heap.size := by omega
  obtain ⟨b0, b1, b2, b3, b4⟩ := N2.at5
  have hn := fun j => N2.free j
  have HW : Below (w.heap.size + 4) w2 ((w2.setCell ⟨w1.heap.size, 4, none⟩ (.string s)).setCell ⟨g, i, none⟩ (.string E0)) := below_set (below_set (Below.refl _ _) (by omega) 4 _) (by omega) i _
  have X5 := X2.kept HW (by omega)
  have N5 := (N2.set 4 (.string s)).other (B' := g) i hne (.string E0)
  simp only [List.setIfInBounds_toArray, List.set_cons_zero, List.set_cons_succ] at N5
  have O5 := ((ownsRow_other (B := w1.heap.size) (j := 4) (u := .string s) O2 hne).stored i (.string E0)).1
  clear HW X1 X2 HX1 N2 O2 hb2
  unfold E0 at X5 N5 O5 b4
  go_wp2
  obtain ⟨W5, hW5⟩ : ∃ W5, W5 = (w2.setCell ⟨w1.heap.size, 4, none⟩ (.string s)).setCell ⟨g, i, none⟩ (.string { data := #[] }) := ⟨_, rfl⟩
  rw [← hW5] at X5 N5 O5 ⊢
  have HO := Lib.hid O5
  clear hW5 O5 dv df b0 b1 b2 b3 b4 hn
  have l5 : w1.heap.size ≠ w.heap.size + 1 + 1 + 1 := by omega
  have l6 : w.heap.size + 1 + 1 + 1 ≠ w1.heap.size := by omega
  have l7 : w1.heap.size ≠ w.heap.size + 3 := by omega
  have l8 : w.heap.size + 3 ≠ w1.heap.size := by omega
  have l9 : w.heap.size ≠ w1.heap.size := by omega
  have la : w.heap.size + 1 + 1 + 1 ≠ w.heap.size := by omega
  have lb : w.heap.size ≠ w.heap.size + 1 + 1 + 1 := by omega
  obtain ⟨b0, b1, b2, b3, b4⟩ := N5.at5
  obtain ⟨c0, c1'', c2, c3, c4⟩ := X5.z.at5
  have hz := fun j => X5.z.free j
  try unfold E0 at b3
  try unfold E0 at b4
  unfold E0 at c3 c4
  have m5 := X5.m.g5
  have HX5 := Lib.hid X5
  have HN5 := Lib.hid N5
  clear X5 N5
  go_region_held3 (fun wx => wx.cell? ⟨w1.heap.size, 0, none⟩ = some (.int .i64 p) ∧ wx.cell? ⟨w1.heap.size, 1, none⟩ = some (.bool fl) ∧ wx.cell? ⟨w1.heap.size, 2, none⟩ = some (.slice (some ⟨g, 0, none⟩) ss.length c1) ∧ wx.cell? ⟨w1.heap.size, 3, none⟩ = some (.string pt) ∧ wx.cell? ⟨w1.heap.size, 4, none⟩ = some (.string s) ∧ wx.cell? ⟨w.heap.size, 5, none⟩ = some (.int .i64 f5)) (go_keep) (fail)
  rw [show IntKind.i64.wrap (t + f5) = t + f5 from IntWalk.i64_in _ (by omega)]
  have HF5 := Lib.hid (HX5.out.z.five (.int .i64 p) (.bool fl) (.slice (some ⟨g, 0, none⟩) ss.length c1) (.string pt) (.string s)).at5
  have HL5 := Lib.hid (below_five HX5.out.low (by omega : w.heap.size ≤ w.heap.size + 3) (.int .i64 p) (.bool fl) (.slice (some ⟨g, 0, none⟩) ss.length c1) (.string pt) (.string s)).drew
  have HO5 := Lib.hid (ownsRow_mono (ownsRow_five (B := w.heap.size + 3) (HO.out) (by omega) (.int .i64 p) (.bool fl) (.slice (some ⟨g, 0, none⟩) ss.length c1) (.string pt) (.string s)).drew (by omega : w.heap.size ≤ w.heap.size + 1 + 1 + 1 + 1))
  clear b0 b1 b2 b3 b4
  go_wp2
  obtain ⟨g0, g1, g2, g3, g4⟩ := HF5.out
  try unfold E0 at g0 g1 g2 g3 g4
  rw [show w.heap.size + 3 = w.heap.size + 1 + 1 + 1 from rfl] at g0 g1 g2 g3 g4
  refine bodyPost_ret (v := .tuple #[.agg #[.int .i64 p, .bool fl, .slice (some ⟨g, 0, none⟩) ss.length c1, .string pt, .string s], .int .i64 (t + f5), .int .i64 0]) (by simp [results, Try.results10, go_sem, E0, g0, g1, g2, g3, g4]) rfl ?_
  exact ⟨(some ⟨g, 0, none⟩), c1, by simp [Rb.val, HS.out], by have := HO5.out; simp only [List.length_set]; rw [List.map_set]; exact this, HL5.out⟩
end Go.Proofs.Ytpnkaoigpefmiaa
