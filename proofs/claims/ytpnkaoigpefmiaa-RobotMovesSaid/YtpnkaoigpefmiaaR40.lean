/- awake. -/
import Derived.Test.YtpnkaoigpefmiaaR44
import Derived.Test.YtpnkaoigpefmiaaWLast
namespace Go.Proofs.Ytpnkaoigpefmiaa
open Go.RowKit
open Go.Proofs.YtpnkaoigpefmiaaW.PrintLast
set_option linter.unusedVariables false
set_option linter.unusedSimpArgs false

def EA : ByteArray := ⟨#[65]⟩
def Ra : Rb := ⟨0, false, [E0, E0, E0, EA], E0, E0⟩
/-- The region goes on, a new box made and filled. -/
def AwQ (W1 : World) (o : Rb × Int × Int) (T : Nat → Option Addr → Nat → Array Value) : Exit → Act → World → Prop
  | .normal, a', w' => ∃ B a2 c2, a' = ⟨T B a2 c2, []⟩ ∧ Blk w' B 26 #[.int .i64 o.1.pos, .bool o.1.failed, .slice a2 o.1.slots.length c2, .string o.1.port, .string o.1.hand] ∧ w'.ownsRow W1.heap.size 9 1 (.slice a2 o.1.slots.length c2) o.1.slots.length (o.1.slots.map Value.string) ∧ Below W1.heap.size W1 w' ∧ W1.heap.size ≤ B
  | _, _, _ => False
set_option maxRecDepth 100000 in
set_option maxHeartbeats 2000000 in
theorem awake_gen (w : World) (o1 o2 : Rb × Int × Int) (ho1 : pickOf Mp Ra 0 3 E0 = o1) (ho2 : putOf Mp o1.1 1 1 = o2) (hin : ∀ (W : World) a c, Strs W a o1.1.slots → o1.1.slots.length ≤ c → (a = none → c = 0) → RobIn W o1.1 a c) (hva : validR Mp Ra) (hfa : farOf Mp = 49)
    (g1 : o1.2.2 = 0) (g2 : o1.2.1 = 11) (g3 : o1.1.hand = EA) (g4 : o2.2.2 = 0) (g5 : o2.2.1 = 12) (g6 : o2.1.pos = 7) (g7 : o2.1.hand = E0) : Calls Try.prog 13 #[] w fun e w' => e = .returned (.bool true) ∧ Below w.heap.size w w' := by
  obtain ⟨W1, hW1⟩ : ∃ W1, W1 = (w.alloc (.cells #[.string E0, .string E0, .string E0, .string EA] 9)).alloc (.cells #[.int .i64 0, .bool false, .slice (some ⟨w.heap.size, 0, none⟩) 4 4, .string E0, .string E0] 26) := ⟨_, rfl⟩
  have B1 : Blk W1 (w.heap.size + 1) 26 #[.int .i64 0, .bool false, .slice (some ⟨w.heap.size, 0, none⟩) 4 4, .string E0, .string E0] := by
    have := Blk.new (w.alloc (.cells #[.string E0, .string E0, .string E0, .string EA] 9)) 26 #[.int .i64 0, .bool false, .slice (some ⟨w.heap.size, 0, none⟩) 4 4, .string E0, .string E0]
    simp only [World.size_alloc] at this; rw [hW1]; exact this
  have L1 : Below w.heap.size w W1 := by rw [hW1]; exact below_alloc (below_alloc (Below.refl _ _) _) _
  have S1 : RobIn W1 Ra (some ⟨w.heap.size, 0, none⟩) 4 := by
    refine ⟨?_, by simp [Ra], (fun h => by cases h), by simp [Ra], ?_, by decide, by decide⟩
    · have := Vals.below (vals_alloc w [.string E0, .string E0, .string E0, .string EA] 9) (below_alloc (Below.refl _ _) (.cells #[.int .i64 0, .bool false, .slice (some ⟨w.heap.size, 0, none⟩) 4 4, .string E0, .string E0] 26))
      rw [hW1]; exact this
    · intro x hx
      simp [items, slotsTo, Ra, List.range_succ] at hx
      rcases hx with h | h | h | h | h | h <;> (subst h; unfold maxLen; decide)
  have K : ∀ wx, Below W1.heap.size W1 wx → Below W1.heap.size W1 wx ∧ wx.cell? ⟨w.heap.size + 1, 0, none⟩ = some (.int .i64 0) ∧ wx.cell? ⟨w.heap.size + 1, 1, none⟩ = some (.bool false) ∧ wx.cell? ⟨w.heap.size + 1, 2, none⟩ = some (.slice (some ⟨w.heap.size, 0, none⟩) 4 4) ∧ wx.cell? ⟨w.heap.size + 1, 3, none⟩ = some (.string E0) ∧ wx.cell? ⟨w.heap.size + 1, 4, none⟩ = some (.string E0) := fun wx hb => ⟨hb, (B1.below hb).at5⟩
  have I1 : Hid (∀ wx, Below W1.heap.size W1 wx → Calls Try.prog 35 #[] wx fun e w' => e = .returned Mp.val ∧ Below W1.heap.size W1 w' ∧ Below wx.heap.size wx w') := Lib.hid fun wx hb => (plain_any wx).mono fun e w' h => ⟨h.1, Below.next hb h.2, h.2⟩
  have I2 : Hid (∀ wx, Below W1.heap.size W1 wx → Calls Try.prog 10 #[Mp.val, Ra.val (some ⟨w.heap.size, 0, none⟩) 4, .agg #[.int .i64 0, .int .i64 3], .string E0] wx fun e w' => ∃ a' c', e = .returned (.tuple #[o1.1.val a' c', .int .i64 o1.2.1, .int .i64 o1.2.2]) ∧ w'.ownsRow wx.heap.size 9 1 (.slice a' o1.1.slots.length c') o1.1.slots.length (o1.1.slots.map Value.string) ∧ Below W1.heap.size W1 w' ∧ Below wx.heap.size wx w') := Lib.hid fun wx hb => (pick_any Mp Ra _ 4 0 3 E0 wx (S1.below hb) (by decide) (by decide)).mono fun e w' h => by
    rw [ho1] at h
    obtain ⟨a', c', h1, h2, h3⟩ := h
    exact ⟨a', c', h1, h2, Below.next hb h3, h3⟩
  have S0 := K W1.drew (Below.refl _ _).drew
  have KK := Lib.hid K
  have I5 : Hid (∀ wx, Below W1.heap.size W1 wx → Calls Try.prog 16 #[Mp.val, Ra.val (some ⟨w.heap.size, 0, none⟩) 4] wx fun e w' => e = .returned (.bool true) ∧ Below wx.heap.size wx w') := Lib.hid fun wx hb => by
    have := valid_any Mp Ra _ 4 wx (S1.below hb)
    rw [decide_eq_true hva] at this; exact this
  have I6 : Hid (∀ wx, Calls Try.prog 17 #[Mp.val] wx fun e w' => e = .returned (.int .i64 49) ∧ Below wx.heap.size wx w') := Lib.hid fun wx => by
    have := farthest_any Mp wx
    rw [hfa] at this; exact this
  have I7 := Lib.hid plain_any
  have I8 : Hid (∀ (wx : World) a c, Strs wx a o1.1.slots → o1.1.slots.length ≤ c → (a = none → c = 0) → Calls Try.prog 14 #[Mp.val, o1.1.val a c, .agg #[.int .i64 1, .int .i64 1]] wx (GivesR wx o2)) := Lib.hid fun wx a c h1 h2 h3 => by
    have := put_any Mp o1.1 a c 1 1 wx (hin wx a c h1 h2 h3) (by decide) (by decide)
    rw [ho2] at this; exact this
  have GG := Lib.hid (And.intro g1 (And.intro g2 (And.intro g3 (And.intro g4 (And.intro g5 (And.intro g6 g7))))))
  have HB1 := Lib.hid B1
  have HL1 := Lib.hid L1
  clear K S1 ho1 B1 ho2 hin hva hfa g1 g2 g3 g4 g5 g6 g7 L1
  unfold Md.val Rb.val Mp Ra E0 EA at *
  dsimp only [List.length_cons, List.length_nil] at *
  go_enter Try.func13, Try.ntmps13
  go_wp2_with fail
  rw [← hW1]
  clear hW1
  refine Code.wp_mono (Q := AwQ W1 o1 (fun B a3 c3 => #[.bool false, .pointer (some ⟨w.heap.size + 1, 0, none⟩), .pointer (some ⟨B, 0, none⟩), .int .i64 o1.2.1, .int .i64 o1.2.2, undef, undef, undef, .slice (some ⟨w.heap.size, 0, none⟩) 4 4, .agg #[.int .i64 0, .bool false, .slice (some ⟨w.heap.size, 0, none⟩) 4 4, .string { data := #[] }, .string { data := #[] }], .tuple #[.agg #[.int .i64 o1.1.pos, .bool o1.1.failed, .slice a3 o1.1.slots.length c3, .string o1.1.port, .string o1.1.hand], .int .i64 o1.2.1, .int .i64 o1.2.2], .agg #[.int .i64 4, .int .i64 2, .int .i64 6, .int .i64 10, .int .i64 2, .int .i64 5, .int .i64 4], .agg #[.int .i64 0, .bool false, .slice (some ⟨w.heap.size, 0, none⟩) 4 4, .string { data := #[] }, .string { data := #[] }], .agg #[.int .i64 0, .int .i64 3], .tuple #[.agg #[.int .i64 o1.1.pos, .bool o1.1.failed, .slice a3 o1.1.slots.length c3, .string o1.1.port, .string o1.1.hand], .int .i64 o1.2.1, .int .i64 o1.2.2], .agg #[.int .i64 o1.1.pos, .bool o1.1.failed, .slice a3 o1.1.slots.length c3, .string o1.1.port, .string o1.1.hand], .int .i64 o1.2.1, .int .i64 o1.2.2, undef, undef, undef, undef, undef, undef, undef, undef, undef, undef, undef, undef, undef, undef, undef, undef, undef, undef, undef, undef, undef, undef, undef, undef, undef, undef, undef, undef, undef, undef, undef, undef, undef, undef, undef, undef, undef, undef, undef, undef, undef, undef, undef, undef, undef, undef, undef])) ?hq ?hreg
  case hreg =>
    refine start_ (n := 12) (S := (fun wx => Below W1.heap.size W1 wx ∧ wx.cell? ⟨w.heap.size + 1, 0, none⟩ = some (.int .i64 0) ∧ wx.cell? ⟨w.heap.size + 1, 1, none⟩ = some (.bool false) ∧ wx.cell? ⟨w.heap.size + 1, 2, none⟩ = some (.slice (some ⟨w.heap.size, 0, none⟩) 4 4) ∧ wx.cell? ⟨w.heap.size + 1, 3, none⟩ = some (.string { data := #[] }) ∧ wx.cell? ⟨w.heap.size + 1, 4, none⟩ = some (.string { data := #[] }))) (ds := []) #[false, false, false, false, false, false, false, false, false, false, false, false] (by kernel_rfl) rfl rfl S0 (fun hHeld => ?_)
    refine take_ (i := 1) (N := some 12) (v := ?_) (a' := ?_) #[false, true, false, false, false, false, false, false, false, false, false, false] rfl rfl (by kernel_rfl) (fun _ _ _ h => h) (Or.inl ⟨by rfl, ?_⟩) hHeld ?_ ?_
    rotate_left
    · rintro w' ⟨s0, s1, s2, s3, s4, s5⟩
      go_simp
      try with_reducible rfl
    rotate_left
    · simp only [Act.put, List.setIfInBounds_toArray, List.set_cons_zero, List.set_cons_succ]
      rfl
    refine pure_ (i := 2) (N := some 13) (v := ?_) (a' := ?_) #[false, true, true, false, false, false, false, false, false, false, false, false] rfl rfl (by kernel_rfl) (fun _ _ _ h => h) (Or.inl ⟨by rfl, ?_⟩) ?_ ?_
    rotate_left
    · intro w'
      go_simp
      try with_reducible rfl
    rotate_left
    · simp only [Act.put, List.setIfInBounds_toArray, List.set_cons_zero, List.set_cons_succ]
      rfl
    refine two_ (i := 0) (j := 8) (Ni := some 11) (Nj := some 2) #[true, true, true, false, false, false, false, false, false, false, false, false] #[false, true, true, false, false, false, false, false, true, false, false, false] rfl rfl rfl rfl (by kernel_rfl) (by decide) (by decide) (fun K hK => ?_) (fun K hK => ?_)
    · go_simp
      refine (I1.out _ hHeld.1).mono ?_
      rintro e w2 ⟨rfl, hb2, hx2⟩
      refine hK.out _ _ (KK.out _ hb2) (fun hHeld => ?_)
      clear hK K
      try simp only [Act.put, List.setIfInBounds_toArray, List.set_cons_zero, List.set_cons_succ]
      refine two_ (i := 3) (j := 8) (Ni := some 14) (Nj := some 2) #[true, true, true, true, false, false, false, false, false, false, false, false] #[true, true, true, false, false, false, false, false, true, false, false, false] rfl rfl rfl rfl (by kernel_rfl) (by decide) (by decide) (fun K hK => ?_) (fun K hK => ?_)
      · go_simp
        refine (I2.out _ hHeld.1).mono ?_
        rintro e w3 ⟨a3, c3, rfl, hown3, hb3, hx3⟩
        refine hK.out _ _ (KK.out _ hb3) (fun hHeld => ?_)
        clear hK K
        try simp only [Act.put, List.setIfInBounds_toArray, List.set_cons_zero, List.set_cons_succ]
        refine pure_ (i := 4) (N := some 10) (v := ?_) (a' := ?_) #[true, true, true, true, true, false, false, false, false, false, false, false] rfl rfl (by kernel_rfl) (fun _ _ _ h => h) (Or.inl ⟨by rfl, ?_⟩) ?_ ?_
        rotate_left
        · intro w'
          go_simp
          try with_reducible rfl
        rotate_left
        · simp only [Act.put, List.setIfInBounds_toArray, List.set_cons_zero, List.set_cons_succ]
          rfl
        refine pure_ (i := 5) (N := some 15) (v := ?_) (a' := ?_) #[true, true, true, true, true, true, false, false, false, false, false, false] rfl rfl (by kernel_rfl) (fun _ _ _ h => h) (Or.inl ⟨by rfl, ?_⟩) ?_ ?_
        rotate_left
        · intro w'
          go_simp
          try with_reducible rfl
        rotate_left
        · simp only [Act.put, List.setIfInBounds_toArray, List.set_cons_zero, List.set_cons_succ]
          rfl
        refine pure_ (i := 6) (N := some 16) (v := ?_) (a' := ?_) #[true, true, true, true, true, true, true, false, false, false, false, false] rfl rfl (by kernel_rfl) (fun _ _ _ h => h) (Or.inl ⟨by rfl, ?_⟩) ?_ ?_
        rotate_left
        · intro w'
          go_simp
          try with_reducible rfl
        rotate_left
        · simp only [Act.put, List.setIfInBounds_toArray, List.set_cons_zero, List.set_cons_succ]
          rfl
        refine pure_ (i := 7) (N := some 17) (v := ?_) (a' := ?_) #[true, true, true, true, true, true, true, true, false, false, false, false] rfl rfl (by kernel_rfl) (fun _ _ _ h => h) (Or.inl ⟨by rfl, ?_⟩) ?_ ?_
        rotate_left
        · intro w'
          go_simp
          try with_reducible rfl
        rotate_left
        · simp only [Act.put, List.setIfInBounds_toArray, List.set_cons_zero, List.set_cons_succ]
          rfl
        refine one_ (i := 8) (N := some 2) #[true, true, true, true, true, true, true, true, true, false, false, false] rfl rfl (by kernel_rfl) (by decide) (fun K hK => ?_)
        go_simp
        refine hK.out _ _ (KK.out _ (below_alloc' hb3 _)) (fun hHeld => ?_)
        clear hK K
        try simp only [Act.put, List.setIfInBounds_toArray, List.set_cons_zero, List.set_cons_succ]
        have BZ := Blk.new w3 26 #[.int .i64 o1.1.pos, .bool o1.1.failed, .slice a3 o1.1.slots.length c3, .string o1.1.port, .string o1.1.hand]
        refine one_ (i := 9) (N := none) #[true, true, true, true, true, true, true, true, true, true, false, false] rfl rfl (by kernel_rfl) (by decide) (fun K hK => ?_)
        go_simp
        refine hK.out _ _ (KK.out _ (below_alloc' hb3 _)) (fun hHeld => ?_)
        clear hK K
        try simp only [Act.put, List.setIfInBounds_toArray, List.set_cons_zero, List.set_cons_succ]
        refine pure_ (i := 10) (N := some 3) (v := ?_) (a' := ?_) #[true, true, true, true, true, true, true, true, true, true, true, false] rfl rfl (by kernel_rfl) (fun _ _ _ h => h) (Or.inl ⟨by rfl, ?_⟩) ?_ ?_
        rotate_left
        · intro w'
          go_simp
          try with_reducible rfl
        rotate_left
        · simp only [Act.put, List.setIfInBounds_toArray, List.set_cons_zero, List.set_cons_succ]
          rfl
        refine pure_ (i := 11) (N := some 4) (v := ?_) (a' := ?_) #[true, true, true, true, true, true, true, true, true, true, true, true] rfl rfl (by kernel_rfl) (fun _ _ _ h => h) (Or.inl ⟨by rfl, ?_⟩) ?_ ?_
        rotate_left
        · intro w'
          go_simp
          try with_reducible rfl
        rotate_left
        · simp only [Act.put, List.setIfInBounds_toArray, List.set_cons_zero, List.set_cons_succ]
          rfl
        refine done_ (by kernel_rfl) ?_
        exact ⟨w3.heap.size, a3, c3, rfl, BZ, ownsRow_mono (hown3.alloc _) hb2.size, below_alloc' hb3 _, hb3.size⟩
      · go_simp
        refine hK.out _ _ (KK.out _ (below_alloc' hb2 _)) (fun hHeld => ?_)
        clear hK K
        try simp only [Act.put, List.setIfInBounds_toArray, List.set_cons_zero, List.set_cons_succ]
        have BZ := Blk.new w2 26 #[.int .i64 0, .bool false, .slice none 0 0, .string { data := #[] }, .string { data := #[] }]
        refine one_ (i := 3) (N := some 14) #[true, true, true, true, false, false, false, false, true, false, false, false] rfl rfl (by kernel_rfl) (by decide) (fun K hK => ?_)
        go_simp
        refine (I2.out _ hHeld.1).mono ?_
        rintro e w3 ⟨a3, c3, rfl, hown3, hb3, hx3⟩
        refine hK.out _ _ (KK.out _ hb3) (fun hHeld => ?_)
        clear hK K
        try simp only [Act.put, List.setIfInBounds_toArray, List.set_cons_zero, List.set_cons_succ]
        refine pure_ (i := 4) (N := some 10) (v := ?_) (a' := ?_) #[true, true, true, true, true, false, false, false, true, false, false, false] rfl rfl (by kernel_rfl) (fun _ _ _ h => h) (Or.inl ⟨by rfl, ?_⟩) ?_ ?_
        rotate_left
        · intro w'
          go_simp
          try with_reducible rfl
        rotate_left
        · simp only [Act.put, List.setIfInBounds_toArray, List.set_cons_zero, List.set_cons_succ]
          rfl
        refine pure_ (i := 5) (N := some 15) (v := ?_) (a' := ?_) #[true, true, true, true, true, true, false, false, true, false, false, false] rfl rfl (by kernel_rfl) (fun _ _ _ h => h) (Or.inl ⟨by rfl, ?_⟩) ?_ ?_
        rotate_left
        · intro w'
          go_simp
          try with_reducible rfl
        rotate_left
        · simp only [Act.put, List.setIfInBounds_toArray, List.set_cons_zero, List.set_cons_succ]
          rfl
        refine pure_ (i := 6) (N := some 16) (v := ?_) (a' := ?_) #[true, true, true, true, true, true, true, false, true, false, false, false] rfl rfl (by kernel_rfl) (fun _ _ _ h => h) (Or.inl ⟨by rfl, ?_⟩) ?_ ?_
        rotate_left
        · intro w'
          go_simp
          try with_reducible rfl
        rotate_left
        · simp only [Act.put, List.setIfInBounds_toArray, List.set_cons_zero, List.set_cons_succ]
          rfl
        refine pure_ (i := 7) (N := some 17) (v := ?_) (a' := ?_) #[true, true, true, true, true, true, true, true, true, false, false, false] rfl rfl (by kernel_rfl) (fun _ _ _ h => h) (Or.inl ⟨by rfl, ?_⟩) ?_ ?_
        rotate_left
        · intro w'
          go_simp
          try with_reducible rfl
        rotate_left
        · simp only [Act.put, List.setIfInBounds_toArray, List.set_cons_zero, List.set_cons_succ]
          rfl
        have BY := BZ.below hx3
        obtain ⟨y0, y1, y2, y3, y4⟩ := BY.at5
        have yf := fun j => BY.free j
        have hs2 := hb2.size
        refine one_ (i := 9) (N := none) #[true, true, true, true, true, true, true, true, true, true, false, false] rfl rfl (by kernel_rfl) (by decide) (fun K hK => ?_)
        go_simp
        refine hK.out _ _ (KK.out _ (below_five hb3 hs2 _ _ _ _ _)) (fun hHeld => ?_)
        clear hK K
        try simp only [Act.put, List.setIfInBounds_toArray, List.set_cons_zero, List.set_cons_succ]
        refine pure_ (i := 10) (N := some 3) (v := ?_) (a' := ?_) #[true, true, true, true, true, true, true, true, true, true, true, false] rfl rfl (by kernel_rfl) (fun _ _ _ h => h) (Or.inl ⟨by rfl, ?_⟩) ?_ ?_
        rotate_left
        · intro w'
          go_simp
          try with_reducible rfl
        rotate_left
        · simp only [Act.put, List.setIfInBounds_toArray, List.set_cons_zero, List.set_cons_succ]
          rfl
        refine pure_ (i := 11) (N := some 4) (v := ?_) (a' := ?_) #[true, true, true, true, true, true, true, true, true, true, true, true] rfl rfl (by kernel_rfl) (fun _ _ _ h => h) (Or.inl ⟨by rfl, ?_⟩) ?_ ?_
        rotate_left
        · intro w'
          go_simp
          try with_reducible rfl
        rotate_left
        · simp only [Act.put, List.setIfInBounds_toArray, List.set_cons_zero, List.set_cons_succ]
          rfl
        refine done_ (by kernel_rfl) ?_
        exact ⟨w2.heap.size, a3, c3, rfl, BY.five _ _ _ _ _, ownsRow_mono (ownsRow_five (B := w2.heap.size) hown3 (by simp) _ _ _ _ _) (by simp; omega), below_five hb3 hs2 _ _ _ _ _, hs2⟩
    · go_simp
      refine hK.out _ _ (KK.out _ (below_alloc' hHeld.1 _)) (fun hHeld => ?_)
      clear hK K
      try simp only [Act.put, List.setIfInBounds_toArray, List.set_cons_zero, List.set_cons_succ]
      have BZ := Blk.new W1.drew 26 #[.int .i64 0, .bool false, .slice none 0 0, .string { data := #[] }, .string { data := #[] }]
      refine one_ (i := 0) (N := some 11) #[true, true, true, false, false, false, false, false, true, false, false, false] rfl rfl (by kernel_rfl) (by decide) (fun K hK => ?_)
      go_simp
      refine (I1.out _ hHeld.1).mono ?_
      rintro e w2 ⟨rfl, hb2, hx2⟩
      refine hK.out _ _ (KK.out _ hb2) (fun hHeld => ?_)
      clear hK K
      try simp only [Act.put, List.setIfInBounds_toArray, List.set_cons_zero, List.set_cons_succ]
      refine one_ (i := 3) (N := some 14) #[true, true, true, true, false, false, false, false, true, false, false, false] rfl rfl (by kernel_rfl) (by decide) (fun K hK => ?_)
      go_simp
      refine (I2.out _ hHeld.1).mono ?_
      rintro e w3 ⟨a3, c3, rfl, hown3, hb3, hx3⟩
      refine hK.out _ _ (KK.out _ hb3) (fun hHeld => ?_)
      clear hK K
      try simp only [Act.put, List.setIfInBounds_toArray, List.set_cons_zero, List.set_cons_succ]
      refine pure_ (i := 4) (N := some 10) (v := ?_) (a' := ?_) #[true, true, true, true, true, false, false, false, true, false, false, false] rfl rfl (by kernel_rfl) (fun _ _ _ h => h) (Or.inl ⟨by rfl, ?_⟩) ?_ ?_
      rotate_left
      · intro w'
        go_simp
        try with_reducible rfl
      rotate_left
      · simp only [Act.put, List.setIfInBounds_toArray, List.set_cons_zero, List.set_cons_succ]
        rfl
      refine pure_ (i := 5) (N := some 15) (v := ?_) (a' := ?_) #[true, true, true, true, true, true, false, false, true, false, false, false] rfl rfl (by kernel_rfl) (fun _ _ _ h => h) (Or.inl ⟨by rfl, ?_⟩) ?_ ?_
      rotate_left
      · intro w'
        go_simp
        try with_reducible rfl
      rotate_left
      · simp only [Act.put, List.setIfInBounds_toArray, List.set_cons_zero, List.set_cons_succ]
        rfl
      refine pure_ (i := 6) (N := some 16) (v := ?_) (a' := ?_) #[true, true, true, true, true, true, true, false, true, false, false, false] rfl rfl (by kernel_rfl) (fun _ _ _ h => h) (Or.inl ⟨by rfl, ?_⟩) ?_ ?_
      rotate_left
      · intro w'
        go_simp
        try with_reducible rfl
      rotate_left
      · simp only [Act.put, List.setIfInBounds_toArray, List.set_cons_zero, List.set_cons_succ]
        rfl
      refine pure_ (i := 7) (N := some 17) (v := ?_) (a' := ?_) #[true, true, true, true, true, true, true, true, true, false, false, false] rfl rfl (by kernel_rfl) (fun _ _ _ h => h) (Or.inl ⟨by rfl, ?_⟩) ?_ ?_
      rotate_left
      · intro w'
        go_simp
        try with_reducible rfl
      rotate_left
      · simp only [Act.put, List.setIfInBounds_toArray, List.set_cons_zero, List.set_cons_succ]
        rfl
      have BY : Blk w3 W1.heap.size 26 #[.int .i64 0, .bool false, .slice none 0 0, .string { data := #[] }, .string { data := #[] }] := (BZ.below hx2).below hx3
      obtain ⟨y0, y1, y2, y3, y4⟩ := BY.at5
      have yf := fun j => BY.free j
      have hs2 : W1.heap.size ≤ W1.heap.size := Nat.le_refl _
      have hs4 : W1.heap.size + 1 ≤ w2.heap.size := by have := hx2.size; simpa using this
      try simp only [World.size_alloc] at hs4
      refine one_ (i := 9) (N := none) #[true, true, true, true, true, true, true, true, true, true, false, false] rfl rfl (by kernel_rfl) (by decide) (fun K hK => ?_)
      go_simp
      refine hK.out _ _ (KK.out _ (below_five hb3 hs2 _ _ _ _ _)) (fun hHeld => ?_)
      clear hK K
      try simp only [Act.put, List.setIfInBounds_toArray, List.set_cons_zero, List.set_cons_succ]
      refine pure_ (i := 10) (N := some 3) (v := ?_) (a' := ?_) #[true, true, true, true, true, true, true, true, true, true, true, false] rfl rfl (by kernel_rfl) (fun _ _ _ h => h) (Or.inl ⟨by rfl, ?_⟩) ?_ ?_
      rotate_left
      · intro w'
        go_simp
        try with_reducible rfl
      rotate_left
      · simp only [Act.put, List.setIfInBounds_toArray, List.set_cons_zero, List.set_cons_succ]
        rfl
      refine pure_ (i := 11) (N := some 4) (v := ?_) (a' := ?_) #[true, true, true, true, true, true, true, true, true, true, true, true] rfl rfl (by kernel_rfl) (fun _ _ _ h => h) (Or.inl ⟨by rfl, ?_⟩) ?_ ?_
      rotate_left
      · intro w'
        go_simp
        try with_reducible rfl
      rotate_left
      · simp only [Act.put, List.setIfInBounds_toArray, List.set_cons_zero, List.set_cons_succ]
        rfl
      refine done_ (by kernel_rfl) ?_
      exact ⟨W1.heap.size, a3, c3, rfl, BY.five _ _ _ _ _, ownsRow_mono (ownsRow_five (B := W1.heap.size) hown3 (by omega) _ _ _ _ _) (by omega), below_five hb3 hs2 _ _ _ _ _, hs2⟩
  intro e a' W2 hq
  cases e <;> try exact hq.elim
  obtain ⟨B, a2, c2, rfl, B2, O2, L2, hle⟩ := hq
  have I3 : Hid (∀ wx, Below W2.heap.size W2 wx → Calls Try.prog 35 #[] wx fun e w' => e = .returned (.agg #[.int .i64 4, .int .i64 2, .int .i64 6, .int .i64 10, .int .i64 2, .int .i64 5, .int .i64 4]) ∧ Below W2.heap.size W2 w' ∧ Below wx.heap.size wx w') := Lib.hid fun wx hb => (I7.out wx).mono fun e w' h => ⟨h.1, Below.next hb h.2, h.2⟩
  have Q2 : ∃ a' c', Value.slice a2 o1.1.slots.length c2 = .slice a' o1.1.slots.length c' ∧ Strs W2 a' o1.1.slots ∧ o1.1.slots.length ≤ c' ∧ (a' = none → c' = 0) ∧ o1.1.slots.length = o1.1.slots.length := ownsStrs O2
  obtain ⟨a2', c2', e2, s2, d2, n2, _⟩ := Q2
  cases e2
  have I4 : Hid (∀ wx, Below W2.heap.size W2 wx → Calls Try.prog 14 #[.agg #[.int .i64 4, .int .i64 2, .int .i64 6, .int .i64 10, .int .i64 2, .int .i64 5, .int .i64 4], .agg #[.int .i64 o1.1.pos, .bool o1.1.failed, .slice a2 o1.1.slots.length c2, .string o1.1.port, .string o1.1.hand], .agg #[.int .i64 1, .int .i64 1]] wx fun e w' => ∃ a' c', e = .returned (.tuple #[.agg #[.int .i64 o2.1.pos, .bool o2.1.failed, .slice a' o2.1.slots.length c', .string o2.1.port, .string o2.1.hand], .int .i64 o2.2.1, .int .i64 o2.2.2]) ∧ w'.ownsRow wx.heap.size 9 1 (.slice a' o2.1.slots.length c') o2.1.slots.length (o2.1.slots.map Value.string) ∧ Below W2.heap.size W2 w' ∧ Below wx.heap.size wx w') := Lib.hid fun wx hb => (I8.out wx a2 c2 (s2.below hb) d2 n2).mono fun e w' h => by
    obtain ⟨a', c', h1, h2, h3⟩ := h
    exact ⟨a', c', h1, h2, Below.next hb h3, h3⟩
  have K2 : ∀ wx, Below W2.heap.size W2 wx → Below W2.heap.size W2 wx ∧ wx.cell? ⟨B, 0, none⟩ = some (.int .i64 o1.1.pos) ∧ wx.cell? ⟨B, 1, none⟩ = some (.bool o1.1.failed) ∧ wx.cell? ⟨B, 2, none⟩ = some (.slice a2 o1.1.slots.length c2) ∧ wx.cell? ⟨B, 3, none⟩ = some (.string o1.1.port) ∧ wx.cell? ⟨B, 4, none⟩ = some (.string o1.1.hand) := fun wx hb => ⟨hb, (B2.below hb).at5⟩
  have S20 := K2 W2.drew (Below.refl _ _).drew
  have KK2 := Lib.hid K2
  have HB2 := Lib.hid B2
  clear K2 O2 s2 d2 n2 I1 I2 S0 I8 B2
  go_wp2_with fail
  refine Code.wp_mono (Q := AwQ W2 o2 (fun B5 a3 c3 => #[.bool false, .pointer (some ⟨w.heap.size + 1, 0, none⟩), .pointer (some ⟨B, 0, none⟩), .int .i64 o1.2.1, .int .i64 o1.2.2, .pointer (some ⟨B5, 0, none⟩), .int .i64 o2.2.1, .int .i64 o2.2.2, .slice (some ⟨w.heap.size, 0, none⟩) 4 4, .agg #[.int .i64 0, .bool false, .slice (some ⟨w.heap.size, 0, none⟩) 4 4, .string { data := #[] }, .string { data := #[] }], .tuple #[.agg #[.int .i64 o1.1.pos, .bool o1.1.failed, .slice a2 o1.1.slots.length c2, .string o1.1.port, .string o1.1.hand], .int .i64 o1.2.1, .int .i64 o1.2.2], .agg #[.int .i64 4, .int .i64 2, .int .i64 6, .int .i64 10, .int .i64 2, .int .i64 5, .int .i64 4], .agg #[.int .i64 0, .bool false, .slice (some ⟨w.heap.size, 0, none⟩) 4 4, .string { data := #[] }, .string { data := #[] }], .agg #[.int .i64 0, .int .i64 3], .tuple #[.agg #[.int .i64 o1.1.pos, .bool o1.1.failed, .slice a2 o1.1.slots.length c2, .string o1.1.port, .string o1.1.hand], .int .i64 o1.2.1, .int .i64 o1.2.2], .agg #[.int .i64 o1.1.pos, .bool o1.1.failed, .slice a2 o1.1.slots.length c2, .string o1.1.port, .string o1.1.hand], .int .i64 o1.2.1, .int .i64 o1.2.2, .tuple #[.agg #[.int .i64 o2.1.pos, .bool o2.1.failed, .slice a3 o2.1.slots.length c3, .string o2.1.port, .string o2.1.hand], .int .i64 o2.2.1, .int .i64 o2.2.2], .agg #[.int .i64 4, .int .i64 2, .int .i64 6, .int .i64 10, .int .i64 2, .int .i64 5, .int .i64 4], .agg #[.int .i64 o1.1.pos, .bool o1.1.failed, .slice a2 o1.1.slots.length c2, .string o1.1.port, .string o1.1.hand], .agg #[.int .i64 1, .int .i64 1], .tuple #[.agg #[.int .i64 o2.1.pos, .bool o2.1.failed, .slice a3 o2.1.slots.length c3, .string o2.1.port, .string o2.1.hand], .int .i64 o2.2.1, .int .i64 o2.2.2], .agg #[.int .i64 o2.1.pos, .bool o2.1.failed, .slice a3 o2.1.slots.length c3, .string o2.1.port, .string o2.1.hand], .int .i64 o2.2.1, .int .i64 o2.2.2, undef, undef, undef, undef, undef, undef, undef, undef, undef, undef, undef, undef, undef, undef, undef, undef, undef, undef, undef, undef, undef, undef, undef, undef, undef, undef, undef, undef, undef, undef, undef, undef, undef, undef, undef, undef, undef, undef, undef])) ?hq2 ?hreg2
  case hreg2 =>
    refine start_ (n := 12) (S := (fun wx => Below W2.heap.size W2 wx ∧ wx.cell? ⟨B, 0, none⟩ = some (.int .i64 o1.1.pos) ∧ wx.cell? ⟨B, 1, none⟩ = some (.bool o1.1.failed) ∧ wx.cell? ⟨B, 2, none⟩ = some (.slice a2 o1.1.slots.length c2) ∧ wx.cell? ⟨B, 3, none⟩ = some (.string o1.1.port) ∧ wx.cell? ⟨B, 4, none⟩ = some (.string o1.1.hand))) (ds := []) #[false, false, false, false, false, false, false, false, false, false, false, false] (by kernel_rfl) rfl rfl S20 (fun hHeld => ?_)
    refine take_ (i := 1) (N := some 20) (v := ?_) (a' := ?_) #[false, true, false, false, false, false, false, false, false, false, false, false] rfl rfl (by kernel_rfl) (fun _ _ _ h => h) (Or.inl ⟨by rfl, ?_⟩) hHeld ?_ ?_
    rotate_left
    · rintro w' ⟨s0, s1, s2, s3, s4, s5⟩
      go_simp
      try with_reducible rfl
    rotate_left
    · simp only [Act.put, List.setIfInBounds_toArray, List.set_cons_zero, List.set_cons_succ]
      rfl
    refine pure_ (i := 2) (N := some 21) (v := ?_) (a' := ?_) #[false, true, true, false, false, false, false, false, false, false, false, false] rfl rfl (by kernel_rfl) (fun _ _ _ h => h) (Or.inl ⟨by rfl, ?_⟩) ?_ ?_
    rotate_left
    · intro w'
      go_simp
      try with_reducible rfl
    rotate_left
    · simp only [Act.put, List.setIfInBounds_toArray, List.set_cons_zero, List.set_cons_succ]
      rfl
    refine two_ (i := 0) (j := 8) (Ni := some 19) (Nj := some 5) #[true, true, true, false, false, false, false, false, false, false, false, false] #[false, true, true, false, false, false, false, false, true, false, false, false] rfl rfl rfl rfl (by kernel_rfl) (by decide) (by decide) (fun K hK => ?_) (fun K hK => ?_)
    · go_simp
      refine (I3.out _ hHeld.1).mono ?_
      rintro e w2 ⟨rfl, hb2, hx2⟩
      refine hK.out _ _ (KK2.out _ hb2) (fun hHeld => ?_)
      clear hK K
      try simp only [Act.put, List.setIfInBounds_toArray, List.set_cons_zero, List.set_cons_succ]
      refine two_ (i := 3) (j := 8) (Ni := some 22) (Nj := some 5) #[true, true, true, true, false, false, false, false, false, false, false, false] #[true, true, true, false, false, false, false, false, true, false, false, false] rfl rfl rfl rfl (by kernel_rfl) (by decide) (by decide) (fun K hK => ?_) (fun K hK => ?_)
      · go_simp
        refine (I4.out _ hHeld.1).mono ?_
        rintro e w3 ⟨a3, c3, rfl, hown3, hb3, hx3⟩
        refine hK.out _ _ (KK2.out _ hb3) (fun hHeld => ?_)
        clear hK K
        try simp only [Act.put, List.setIfInBounds_toArray, List.set_cons_zero, List.set_cons_succ]
        refine pure_ (i := 4) (N := some 18) (v := ?_) (a' := ?_) #[true, true, true, true, true, false, false, false, false, false, false, false] rfl rfl (by kernel_rfl) (fun _ _ _ h => h) (Or.inl ⟨by rfl, ?_⟩) ?_ ?_
        rotate_left
        · intro w'
          go_simp
          try with_reducible rfl
        rotate_left
        · simp only [Act.put, List.setIfInBounds_toArray, List.set_cons_zero, List.set_cons_succ]
          rfl
        refine pure_ (i := 5) (N := some 23) (v := ?_) (a' := ?_) #[true, true, true, true, true, true, false, false, false, false, false, false] rfl rfl (by kernel_rfl) (fun _ _ _ h => h) (Or.inl ⟨by rfl, ?_⟩) ?_ ?_
        rotate_left
        · intro w'
          go_simp
          try with_reducible rfl
        rotate_left
        · simp only [Act.put, List.setIfInBounds_toArray, List.set_cons_zero, List.set_cons_succ]
          rfl
        refine pure_ (i := 6) (N := some 24) (v := ?_) (a' := ?_) #[true, true, true, true, true, true, true, false, false, false, false, false] rfl rfl (by kernel_rfl) (fun _ _ _ h => h) (Or.inl ⟨by rfl, ?_⟩) ?_ ?_
        rotate_left
        · intro w'
          go_simp
          try with_reducible rfl
        rotate_left
        · simp only [Act.put, List.setIfInBounds_toArray, List.set_cons_zero, List.set_cons_succ]
          rfl
        refine pure_ (i := 7) (N := some 25) (v := ?_) (a' := ?_) #[true, true, true, true, true, true, true, true, false, false, false, false] rfl rfl (by kernel_rfl) (fun _ _ _ h => h) (Or.inl ⟨by rfl, ?_⟩) ?_ ?_
        rotate_left
        · intro w'
          go_simp
          try with_reducible rfl
        rotate_left
        · simp only [Act.put, List.setIfInBounds_toArray, List.set_cons_zero, List.set_cons_succ]
          rfl
        refine one_ (i := 8) (N := some 5) #[true, true, true, true, true, true, true, true, true, false, false, false] rfl rfl (by kernel_rfl) (by decide) (fun K hK => ?_)
        go_simp
        refine hK.out _ _ (KK2.out _ (below_alloc' hb3 _)) (fun hHeld => ?_)
        clear hK K
        try simp only [Act.put, List.setIfInBounds_toArray, List.set_cons_zero, List.set_cons_succ]
        have BZ := Blk.new w3 26 #[.int .i64 o2.1.pos, .bool o2.1.failed, .slice a3 o2.1.slots.length c3, .string o2.1.port, .string o2.1.hand]
        refine one_ (i := 9) (N := none) #[true, true, true, true, true, true, true, true, true, true, false, false] rfl rfl (by kernel_rfl) (by decide) (fun K hK => ?_)
        go_simp
        refine hK.out _ _ (KK2.out _ (below_alloc' hb3 _)) (fun hHeld => ?_)
        clear hK K
        try simp only [Act.put, List.setIfInBounds_toArray, List.set_cons_zero, List.set_cons_succ]
        refine pure_ (i := 10) (N := some 6) (v := ?_) (a' := ?_) #[true, true, true, true, true, true, true, true, true, true, true, false] rfl rfl (by kernel_rfl) (fun _ _ _ h => h) (Or.inl ⟨by rfl, ?_⟩) ?_ ?_
        rotate_left
        · intro w'
          go_simp
          try with_reducible rfl
        rotate_left
        · simp only [Act.put, List.setIfInBounds_toArray, List.set_cons_zero, List.set_cons_succ]
          rfl
        refine pure_ (i := 11) (N := some 7) (v := ?_) (a' := ?_) #[true, true, true, true, true, true, true, true, true, true, true, true] rfl rfl (by kernel_rfl) (fun _ _ _ h => h) (Or.inl ⟨by rfl, ?_⟩) ?_ ?_
        rotate_left
        · intro w'
          go_simp
          try with_reducible rfl
        rotate_left
        · simp only [Act.put, List.setIfInBounds_toArray, List.set_cons_zero, List.set_cons_succ]
          rfl
        refine done_ (by kernel_rfl) ?_
        exact ⟨w3.heap.size, a3, c3, rfl, BZ, ownsRow_mono (hown3.alloc _) hb2.size, below_alloc' hb3 _, hb3.size⟩
      · go_simp
        refine hK.out _ _ (KK2.out _ (below_alloc' hb2 _)) (fun hHeld => ?_)
        clear hK K
        try simp only [Act.put, List.setIfInBounds_toArray, List.set_cons_zero, List.set_cons_succ]
        have BZ := Blk.new w2 26 #[.int .i64 0, .bool false, .slice none 0 0, .string { data := #[] }, .string { data := #[] }]
        refine one_ (i := 3) (N := some 22) #[true, true, true, true, false, false, false, false, true, false, false, false] rfl rfl (by kernel_rfl) (by decide) (fun K hK => ?_)
        go_simp
        refine (I4.out _ hHeld.1).mono ?_
        rintro e w3 ⟨a3, c3, rfl, hown3, hb3, hx3⟩
        refine hK.out _ _ (KK2.out _ hb3) (fun hHeld => ?_)
        clear hK K
        try simp only [Act.put, List.setIfInBounds_toArray, List.set_cons_zero, List.set_cons_succ]
        refine pure_ (i := 4) (N := some 18) (v := ?_) (a' := ?_) #[true, true, true, true, true, false, false, false, true, false, false, false] rfl rfl (by kernel_rfl) (fun _ _ _ h => h) (Or.inl ⟨by rfl, ?_⟩) ?_ ?_
        rotate_left
        · intro w'
          go_simp
          try with_reducible rfl
        rotate_left
        · simp only [Act.put, List.setIfInBounds_toArray, List.set_cons_zero, List.set_cons_succ]
          rfl
        refine pure_ (i := 5) (N := some 23) (v := ?_) (a' := ?_) #[true, true, true, true, true, true, false, false, true, false, false, false] rfl rfl (by kernel_rfl) (fun _ _ _ h => h) (Or.inl ⟨by rfl, ?_⟩) ?_ ?_
        rotate_left
        · intro w'
          go_simp
          try with_reducible rfl
        rotate_left
        · simp only [Act.put, List.setIfInBounds_toArray, List.set_cons_zero, List.set_cons_succ]
          rfl
        refine pure_ (i := 6) (N := some 24) (v := ?_) (a' := ?_) #[true, true, true, true, true, true, true, false, true, false, false, false] rfl rfl (by kernel_rfl) (fun _ _ _ h => h) (Or.inl ⟨by rfl, ?_⟩) ?_ ?_
        rotate_left
        · intro w'
          go_simp
          try with_reducible rfl
        rotate_left
        · simp only [Act.put, List.setIfInBounds_toArray, List.set_cons_zero, List.set_cons_succ]
          rfl
        refine pure_ (i := 7) (N := some 25) (v := ?_) (a' := ?_) #[true, true, true, true, true, true, true, true, true, false, false, false] rfl rfl (by kernel_rfl) (fun _ _ _ h => h) (Or.inl ⟨by rfl, ?_⟩) ?_ ?_
        rotate_left
        · intro w'
          go_simp
          try with_reducible rfl
        rotate_left
        · simp only [Act.put, List.setIfInBounds_toArray, List.set_cons_zero, List.set_cons_succ]
          rfl
        have BY := BZ.below hx3
        obtain ⟨y0, y1, y2, y3, y4⟩ := BY.at5
        have yf := fun j => BY.free j
        have hs2 := hb2.size
        refine one_ (i := 9) (N := none) #[true, true, true, true, true, true, true, true, true, true, false, false] rfl rfl (by kernel_rfl) (by decide) (fun K hK => ?_)
        go_simp
        refine hK.out _ _ (KK2.out _ (below_five hb3 hs2 _ _ _ _ _)) (fun hHeld => ?_)
        clear hK K
        try simp only [Act.put, List.setIfInBounds_toArray, List.set_cons_zero, List.set_cons_succ]
        refine pure_ (i := 10) (N := some 6) (v := ?_) (a' := ?_) #[true, true, true, true, true, true, true, true, true, true, true, false] rfl rfl (by kernel_rfl) (fun _ _ _ h => h) (Or.inl ⟨by rfl, ?_⟩) ?_ ?_
        rotate_left
        · intro w'
          go_simp
          try with_reducible rfl
        rotate_left
        · simp only [Act.put, List.setIfInBounds_toArray, List.set_cons_zero, List.set_cons_succ]
          rfl
        refine pure_ (i := 11) (N := some 7) (v := ?_) (a' := ?_) #[true, true, true, true, true, true, true, true, true, true, true, true] rfl rfl (by kernel_rfl) (fun _ _ _ h => h) (Or.inl ⟨by rfl, ?_⟩) ?_ ?_
        rotate_left
        · intro w'
          go_simp
          try with_reducible rfl
        rotate_left
        · simp only [Act.put, List.setIfInBounds_toArray, List.set_cons_zero, List.set_cons_succ]
          rfl
        refine done_ (by kernel_rfl) ?_
        exact ⟨w2.heap.size, a3, c3, rfl, BY.five _ _ _ _ _, ownsRow_mono (ownsRow_five (B := w2.heap.size) hown3 (by simp) _ _ _ _ _) (by simp; omega), below_five hb3 hs2 _ _ _ _ _, hs2⟩
    · go_simp
      refine hK.out _ _ (KK2.out _ (below_alloc' hHeld.1 _)) (fun hHeld => ?_)
      clear hK K
      try simp only [Act.put, List.setIfInBounds_toArray, List.set_cons_zero, List.set_cons_succ]
      have BZ := Blk.new W2.drew 26 #[.int .i64 0, .bool false, .slice none 0 0, .string { data := #[] }, .string { data := #[] }]
      refine one_ (i := 0) (N := some 19) #[true, true, true, false, false, false, false, false, true, false, false, false] rfl rfl (by kernel_rfl) (by decide) (fun K hK => ?_)
      go_simp
      refine (I3.out _ hHeld.1).mono ?_
      rintro e w2 ⟨rfl, hb2, hx2⟩
      refine hK.out _ _ (KK2.out _ hb2) (fun hHeld => ?_)
      clear hK K
      try simp only [Act.put, List.setIfInBounds_toArray, List.set_cons_zero, List.set_cons_succ]
      refine one_ (i := 3) (N := some 22) #[true, true, true, true, false, false, false, false, true, false, false, false] rfl rfl (by kernel_rfl) (by decide) (fun K hK => ?_)
      go_simp
      refine (I4.out _ hHeld.1).mono ?_
      rintro e w3 ⟨a3, c3, rfl, hown3, hb3, hx3⟩
      refine hK.out _ _ (KK2.out _ hb3) (fun hHeld => ?_)
      clear hK K
      try simp only [Act.put, List.setIfInBounds_toArray, List.set_cons_zero, List.set_cons_succ]
      refine pure_ (i := 4) (N := some 18) (v := ?_) (a' := ?_) #[true, true, true, true, true, false, false, false, true, false, false, false] rfl rfl (by kernel_rfl) (fun _ _ _ h => h) (Or.inl ⟨by rfl, ?_⟩) ?_ ?_
      rotate_left
      · intro w'
        go_simp
        try with_reducible rfl
      rotate_left
      · simp only [Act.put, List.setIfInBounds_toArray, List.set_cons_zero, List.set_cons_succ]
        rfl
      refine pure_ (i := 5) (N := some 23) (v := ?_) (a' := ?_) #[true, true, true, true, true, true, false, false, true, false, false, false] rfl rfl (by kernel_rfl) (fun _ _ _ h => h) (Or.inl ⟨by rfl, ?_⟩) ?_ ?_
      rotate_left
      · intro w'
        go_simp
        try with_reducible rfl
      rotate_left
      · simp only [Act.put, List.setIfInBounds_toArray, List.set_cons_zero, List.set_cons_succ]
        rfl
      refine pure_ (i := 6) (N := some 24) (v := ?_) (a' := ?_) #[true, true, true, true, true, true, true, false, true, false, false, false] rfl rfl (by kernel_rfl) (fun _ _ _ h => h) (Or.inl ⟨by rfl, ?_⟩) ?_ ?_
      rotate_left
      · intro w'
        go_simp
        try with_reducible rfl
      rotate_left
      · simp only [Act.put, List.setIfInBounds_toArray, List.set_cons_zero, List.set_cons_succ]
        rfl
      refine pure_ (i := 7) (N := some 25) (v := ?_) (a' := ?_) #[true, true, true, true, true, true, true, true, true, false, false, false] rfl rfl (by kernel_rfl) (fun _ _ _ h => h) (Or.inl ⟨by rfl, ?_⟩) ?_ ?_
      rotate_left
      · intro w'
        go_simp
        try with_reducible rfl
      rotate_left
      · simp only [Act.put, List.setIfInBounds_toArray, List.set_cons_zero, List.set_cons_succ]
        rfl
      have BY : Blk w3 W2.heap.size 26 #[.int .i64 0, .bool false, .slice none 0 0, .string { data := #[] }, .string { data := #[] }] := (BZ.below hx2).below hx3
      obtain ⟨y0, y1, y2, y3, y4⟩ := BY.at5
      have yf := fun j => BY.free j
      have hs2 : W2.heap.size ≤ W2.heap.size := Nat.le_refl _
      have hs4 : W2.heap.size + 1 ≤ w2.heap.size := by have := hx2.size; simpa using this
      try simp only [World.size_alloc] at hs4
      refine one_ (i := 9) (N := none) #[true, true, true, true, true, true, true, true, true, true, false, false] rfl rfl (by kernel_rfl) (by decide) (fun K hK => ?_)
      go_simp
      refine hK.out _ _ (KK2.out _ (below_five hb3 hs2 _ _ _ _ _)) (fun hHeld => ?_)
      clear hK K
      try simp only [Act.put, List.setIfInBounds_toArray, List.set_cons_zero, List.set_cons_succ]
      refine pure_ (i := 10) (N := some 6) (v := ?_) (a' := ?_) #[true, true, true, true, true, true, true, true, true, true, true, false] rfl rfl (by kernel_rfl) (fun _ _ _ h => h) (Or.inl ⟨by rfl, ?_⟩) ?_ ?_
      rotate_left
      · intro w'
        go_simp
        try with_reducible rfl
      rotate_left
      · simp only [Act.put, List.setIfInBounds_toArray, List.set_cons_zero, List.set_cons_succ]
        rfl
      refine pure_ (i := 11) (N := some 7) (v := ?_) (a' := ?_) #[true, true, true, true, true, true, true, true, true, true, true, true] rfl rfl (by kernel_rfl) (fun _ _ _ h => h) (Or.inl ⟨by rfl, ?_⟩) ?_ ?_
      rotate_left
      · intro w'
        go_simp
        try with_reducible rfl
      rotate_left
      · simp only [Act.put, List.setIfInBounds_toArray, List.set_cons_zero, List.set_cons_succ]
        rfl
      refine done_ (by kernel_rfl) ?_
      exact ⟨W2.heap.size, a3, c3, rfl, BY.five _ _ _ _ _, ownsRow_mono (ownsRow_five (B := W2.heap.size) hown3 (by omega) _ _ _ _ _) (by omega), below_five hb3 hs2 _ _ _ _ _, hs2⟩
  intro e a' W3 hq
  cases e <;> try exact hq.elim
  obtain ⟨B5, a5, c5, rfl, B3, O3, L3, hle3⟩ := hq
  obtain ⟨g1, g2, g3, g4, g5, g6, g7⟩ := GG.out
  have Y1 := HB1.out.below (Below.trans L2 (L3.mono L2.size))
  have Y2 := HB2.out.below L3
  rw [g3] at Y2
  rw [g6, g7] at B3
  have K3 : ∀ wx, Below W3.heap.size W3 wx → Below W3.heap.size W3 wx ∧ wx.cell? ⟨w.heap.size + 1, 0, none⟩ = some (.int .i64 0) ∧ wx.cell? ⟨w.heap.size + 1, 1, none⟩ = some (.bool false) ∧ wx.cell? ⟨w.heap.size + 1, 2, none⟩ = some (.slice (some ⟨w.heap.size, 0, none⟩) 4 4) ∧ wx.cell? ⟨w.heap.size + 1, 3, none⟩ = some (.string { data := #[] }) ∧ wx.cell? ⟨w.heap.size + 1, 4, none⟩ = some (.string { data := #[] }) ∧ wx.cell? ⟨B, 4, none⟩ = some (.string { data := #[65] }) ∧ wx.cell? ⟨B5, 0, none⟩ = some (.int .i64 7) ∧ wx.cell? ⟨B5, 4, none⟩ = some (.string { data := #[] }) := fun wx hb => by
    obtain ⟨y0, y1, y2, y3, y4⟩ := (Y1.below hb).at5
    exact ⟨hb, y0, y1, y2, y3, y4, (Y2.below hb).cell 4, (B3.below hb).cell 0, (B3.below hb).cell 4⟩
  have S30 := K3 W3.drew (Below.refl _ _).drew
  have KK3 := Lib.hid K3
  have hb13 := Below.trans L2 (L3.mono L2.size)
  have I9 : Hid (∀ wx, Below W3.heap.size W3 wx → Calls Try.prog 35 #[] wx fun e w' => e = .returned (.agg #[.int .i64 4, .int .i64 2, .int .i64 6, .int .i64 10, .int .i64 2, .int .i64 5, .int .i64 4]) ∧ Below W3.heap.size W3 w') := Lib.hid fun wx hb => (I7.out wx).mono fun e w' h => ⟨h.1, Below.next hb h.2⟩
  have I10 : Hid (∀ wx, Below W3.heap.size W3 wx → Calls Try.prog 16 #[.agg #[.int .i64 4, .int .i64 2, .int .i64 6, .int .i64 10, .int .i64 2, .int .i64 5, .int .i64 4], .agg #[.int .i64 0, .bool false, .slice (some ⟨w.heap.size, 0, none⟩) 4 4, .string { data := #[] }, .string { data := #[] }]] wx fun e w' => e = .returned (.bool true) ∧ Below W3.heap.size W3 w') := Lib.hid fun wx hb => (I5.out wx (Below.trans hb13 (hb.mono hb13.size))).mono fun e w' h => ⟨h.1, Below.next hb h.2⟩
  have I11 : Hid (∀ wx, Below W3.heap.size W3 wx → Calls Try.prog 17 #[.agg #[.int .i64 4, .int .i64 2, .int .i64 6, .int .i64 10, .int .i64 2, .int .i64 5, .int .i64 4]] wx fun e w' => e = .returned (.int .i64 49) ∧ Below W3.heap.size W3 w') := Lib.hid fun wx hb => (I6.out wx).mono fun e w' h => ⟨h.1, Below.next hb h.2⟩
  rw [g1, g2, g4, g5]
  have HLL := Lib.hid (Below.trans HL1.out (hb13.mono HL1.out.size))
  clear K3 Y1 Y2 B3 O3 I3 I4 I5 I6 I7 S20 GG g1 g2 g3 g4 g5 g6 g7 hb13
  go_wp2_with fail
  refine start_ (n := 40) (S := (fun wx => Below W3.heap.size W3 wx ∧ wx.cell? ⟨w.heap.size + 1, 0, none⟩ = some (.int .i64 0) ∧ wx.cell? ⟨w.heap.size + 1, 1, none⟩ = some (.bool false) ∧ wx.cell? ⟨w.heap.size + 1, 2, none⟩ = some (.slice (some ⟨w.heap.size, 0, none⟩) 4 4) ∧ wx.cell? ⟨w.heap.size + 1, 3, none⟩ = some (.string { data := #[] }) ∧ wx.cell? ⟨w.heap.size + 1, 4, none⟩ = some (.string { data := #[] }) ∧ wx.cell? ⟨B, 4, none⟩ = some (.string { data := #[65] }) ∧ wx.cell? ⟨B5, 0, none⟩ = some (.int .i64 7) ∧ wx.cell? ⟨B5, 4, none⟩ = some (.string { data := #[] }))) (ds := []) #[false, false, false, false, false, false, false, false, false, false, false, false, false, false, false, false, false, false, false, false, false, false, false, false, false, false, false, false, false, false, false, false, false, false, false, false, false, false, false, false] (by kernel_rfl) rfl rfl S30 (fun hHeld => ?_)
  refine take_ (i := 1) (N := some 27) (v := ?_) (a' := ?_) #[false, true, false, false, false, false, false, false, false, false, false, false, false, false, false, false, false, false, false, false, false, false, false, false, false, false, false, false, false, false, false, false, false, false, false, false, false, false, false, false] rfl rfl (by kernel_rfl) (fun _ _ _ h => h) (Or.inl ⟨by rfl, ?_⟩) hHeld ?_ ?_
  rotate_left
  · rintro w' ⟨s0, s1, s2, s3, s4, s5, s6, s7, s8⟩
    go_simp
    try with_reducible rfl
  rotate_left
  · simp only [Act.put, List.setIfInBounds_toArray, List.set_cons_zero, List.set_cons_succ]
    rfl
  refine one_ (i := 0) (N := some 26) #[true, true, false, false, false, false, false, false, false, false, false, false, false, false, false, false, false, false, false, false, false, false, false, false, false, false, false, false, false, false, false, false, false, false, false, false, false, false, false, false] rfl rfl (by kernel_rfl) (by decide) (fun K hK => ?_)
  go_simp
  refine (I9.out _ hHeld.1).mono ?_
  rintro e w4 ⟨rfl, hb4⟩
  refine hK.out _ _ (KK3.out _ hb4) (fun hHeld => ?_)
  clear hK K
  try simp only [Act.put, List.setIfInBounds_toArray, List.set_cons_zero, List.set_cons_succ]
  refine one_ (i := 2) (N := some 28) #[true, true, true, false, false, false, false, false, false, false, false, false, false, false, false, false, false, false, false, false, false, false, false, false, false, false, false, false, false, false, false, false, false, false, false, false, false, false, false, false] rfl rfl (by kernel_rfl) (by decide) (fun K hK => ?_)
  go_simp
  refine (I10.out _ hHeld.1).mono ?_
  rintro e w5 ⟨rfl, hb5⟩
  refine hK.out _ _ (KK3.out _ hb5) (fun hHeld => ?_)
  clear hK K
  try simp only [Act.put, List.setIfInBounds_toArray, List.set_cons_zero, List.set_cons_succ]
  refine pure_ (i := 3) (N := some 29) (v := ?_) (a' := ?_) #[true, true, true, true, false, false, false, false, false, false, false, false, false, false, false, false, false, false, false, false, false, false, false, false, false, false, false, false, false, false, false, false, false, false, false, false, false, false, false, false] rfl rfl (by kernel_rfl) (fun _ _ _ h => h) (Or.inl ⟨by rfl, ?_⟩) ?_ ?_
  rotate_left
  · intro w'
    go_simp
    try with_reducible rfl
  rotate_left
  · simp only [Act.put, List.setIfInBounds_toArray, List.set_cons_zero, List.set_cons_succ]
    rfl
  refine pure_ (i := 4) (N := some 30) (v := ?_) (a' := ?_) #[true, true, true, true, true, false, false, false, false, false, false, false, false, false, false, false, false, false, false, false, false, false, false, false, false, false, false, false, false, false, false, false, false, false, false, false, false, false, false, false] rfl rfl (by kernel_rfl) (fun _ _ _ h => h) (Or.inl ⟨by rfl, ?_⟩) ?_ ?_
  rotate_left
  · intro w'
    go_simp
    try with_reducible rfl
  rotate_left
  · simp only [Act.put, List.setIfInBounds_toArray, List.set_cons_zero, List.set_cons_succ]
    rfl
  refine pure_ (i := 5) (N := some 31) (v := ?_) (a' := ?_) #[true, true, true, true, true, true, false, false, false, false, false, false, false, false, false, false, false, false, false, false, false, false, false, false, false, false, false, false, false, false, false, false, false, false, false, false, false, false, false, false] rfl rfl (by kernel_rfl) (fun _ _ _ h => h) (Or.inl ⟨by rfl, ?_⟩) ?_ ?_
  rotate_left
  · intro w'
    go_simp
    try with_reducible rfl
  rotate_left
  · simp only [Act.put, List.setIfInBounds_toArray, List.set_cons_zero, List.set_cons_succ]
    rfl
  refine pure_ (i := 6) (N := some 32) (v := ?_) (a' := ?_) #[true, true, true, true, true, true, true, false, false, false, false, false, false, false, false, false, false, false, false, false, false, false, false, false, false, false, false, false, false, false, false, false, false, false, false, false, false, false, false, false] rfl rfl (by kernel_rfl) (fun _ _ _ h => h) (Or.inl ⟨by rfl, ?_⟩) ?_ ?_
  rotate_left
  · intro w'
    go_simp
    try with_reducible rfl
  rotate_left
  · simp only [Act.put, List.setIfInBounds_toArray, List.set_cons_zero, List.set_cons_succ]
    rfl
  refine pure_ (i := 7) (N := some 33) (v := ?_) (a' := ?_) #[true, true, true, true, true, true, true, true, false, false, false, false, false, false, false, false, false, false, false, false, false, false, false, false, false, false, false, false, false, false, false, false, false, false, false, false, false, false, false, false] rfl rfl (by kernel_rfl) (fun _ _ _ h => h) (Or.inl ⟨by rfl, ?_⟩) ?_ ?_
  rotate_left
  · intro w'
    go_simp
    try with_reducible rfl
  rotate_left
  · simp only [Act.put, List.setIfInBounds_toArray, List.set_cons_zero, List.set_cons_succ]
    rfl
  refine pure_ (i := 8) (N := some 34) (v := ?_) (a' := ?_) #[true, true, true, true, true, true, true, true, true, false, false, false, false, false, false, false, false, false, false, false, false, false, false, false, false, false, false, false, false, false, false, false, false, false, false, false, false, false, false, false] rfl rfl (by kernel_rfl) (fun _ _ _ h => h) (Or.inl ⟨by rfl, ?_⟩) ?_ ?_
  rotate_left
  · intro w'
    go_simp
    try with_reducible rfl
  rotate_left
  · simp only [Act.put, List.setIfInBounds_toArray, List.set_cons_zero, List.set_cons_succ]
    rfl
  refine pure_ (i := 9) (N := some 35) (v := ?_) (a' := ?_) #[true, true, true, true, true, true, true, true, true, true, false, false, false, false, false, false, false, false, false, false, false, false, false, false, false, false, false, false, false, false, false, false, false, false, false, false, false, false, false, false] rfl rfl (by kernel_rfl) (fun _ _ _ h => h) (Or.inl ⟨by rfl, ?_⟩) ?_ ?_
  rotate_left
  · intro w'
    go_simp
    try with_reducible rfl
  rotate_left
  · simp only [Act.put, List.setIfInBounds_toArray, List.set_cons_zero, List.set_cons_succ]
    rfl
  refine pure_ (i := 10) (N := some 36) (v := ?_) (a' := ?_) #[true, true, true, true, true, true, true, true, true, true, true, false, false, false, false, false, false, false, false, false, false, false, false, false, false, false, false, false, false, false, false, false, false, false, false, false, false, false, false, false] rfl rfl (by kernel_rfl) (fun _ _ _ h => h) (Or.inl ⟨by rfl, ?_⟩) ?_ ?_
  rotate_left
  · intro w'
    go_simp
    try with_reducible rfl
  rotate_left
  · simp only [Act.put, List.setIfInBounds_toArray, List.set_cons_zero, List.set_cons_succ]
    rfl
  refine pure_ (i := 11) (N := some 37) (v := ?_) (a' := ?_) #[true, true, true, true, true, true, true, true, true, true, true, true, false, false, false, false, false, false, false, false, false, false, false, false, false, false, false, false, false, false, false, false, false, false, false, false, false, false, false, false] rfl rfl (by kernel_rfl) (fun _ _ _ h => h) (Or.inl ⟨by rfl, ?_⟩) ?_ ?_
  rotate_left
  · intro w'
    go_simp
    try with_reducible rfl
  rotate_left
  · simp only [Act.put, List.setIfInBounds_toArray, List.set_cons_zero, List.set_cons_succ]
    rfl
  refine pure_ (i := 12) (N := some 38) (v := ?_) (a' := ?_) #[true, true, true, true, true, true, true, true, true, true, true, true, true, false, false, false, false, false, false, false, false, false, false, false, false, false, false, false, false, false, false, false, false, false, false, false, false, false, false, false] rfl rfl (by kernel_rfl) (fun _ _ _ h => h) (Or.inl ⟨by rfl, ?_⟩) ?_ ?_
  rotate_left
  · intro w'
    go_simp
    try with_reducible rfl
  rotate_left
  · simp only [Act.put, List.setIfInBounds_toArray, List.set_cons_zero, List.set_cons_succ]
    rfl
  refine take_ (i := 13) (N := some 39) (v := ?_) (a' := ?_) #[true, true, true, true, true, true, true, true, true, true, true, true, true, true, false, false, false, false, false, false, false, false, false, false, false, false, false, false, false, false, false, false, false, false, false, false, false, false, false, false] rfl rfl (by kernel_rfl) (fun _ _ _ h => h) (Or.inl ⟨by rfl, ?_⟩) hHeld ?_ ?_
  rotate_left
  · rintro w' ⟨s0, s1, s2, s3, s4, s5, s6, s7, s8⟩
    go_simp
    try with_reducible rfl
  rotate_left
  · simp only [Act.put, List.setIfInBounds_toArray, List.set_cons_zero, List.set_cons_succ]
    rfl
  refine pure_ (i := 14) (N := some 40) (v := ?_) (a' := ?_) #[true, true, true, true, true, true, true, true, true, true, true, true, true, true, true, false, false, false, false, false, false, false, false, false, false, false, false, false, false, false, false, false, false, false, false, false, false, false, false, false] rfl rfl (by kernel_rfl) (fun _ _ _ h => h) (Or.inl ⟨by rfl, ?_⟩) ?_ ?_
  rotate_left
  · intro w'
    go_simp
    try with_reducible rfl
  rotate_left
  · simp only [Act.put, List.setIfInBounds_toArray, List.set_cons_zero, List.set_cons_succ]
    rfl
  refine pure_ (i := 15) (N := some 41) (v := ?_) (a' := ?_) #[true, true, true, true, true, true, true, true, true, true, true, true, true, true, true, true, false, false, false, false, false, false, false, false, false, false, false, false, false, false, false, false, false, false, false, false, false, false, false, false] rfl rfl (by kernel_rfl) (fun _ _ _ h => h) (Or.inl ⟨by rfl, ?_⟩) ?_ ?_
  rotate_left
  · intro w'
    go_simp
    try with_reducible rfl
  rotate_left
  · simp only [Act.put, List.setIfInBounds_toArray, List.set_cons_zero, List.set_cons_succ]
    rfl
  refine pure_ (i := 16) (N := some 42) (v := ?_) (a' := ?_) #[true, true, true, true, true, true, true, true, true, true, true, true, true, true, true, true, true, false, false, false, false, false, false, false, false, false, false, false, false, false, false, false, false, false, false, false, false, false, false, false] rfl rfl (by kernel_rfl) (fun _ _ _ h => h) (Or.inl ⟨by rfl, ?_⟩) ?_ ?_
  rotate_left
  · intro w'
    go_simp
    try with_reducible rfl
  rotate_left
  · simp only [Act.put, List.setIfInBounds_toArray, List.set_cons_zero, List.set_cons_succ]
    rfl
  refine pure_ (i := 17) (N := some 43) (v := ?_) (a' := ?_) #[true, true, true, true, true, true, true, true, true, true, true, true, true, true, true, true, true, true, false, false, false, false, false, false, false, false, false, false, false, false, false, false, false, false, false, false, false, false, false, false] rfl rfl (by kernel_rfl) (fun _ _ _ h => h) (Or.inl ⟨by rfl, ?_⟩) ?_ ?_
  rotate_left
  · intro w'
    go_simp
    try with_reducible rfl
  rotate_left
  · simp only [Act.put, List.setIfInBounds_toArray, List.set_cons_zero, List.set_cons_succ]
    rfl
  refine pure_ (i := 18) (N := some 44) (v := ?_) (a' := ?_) #[true, true, true, true, true, true, true, true, true, true, true, true, true, true, true, true, true, true, true, false, false, false, false, false, false, false, false, false, false, false, false, false, false, false, false, false, false, false, false, false] rfl rfl (by kernel_rfl) (fun _ _ _ h => h) (Or.inl ⟨by rfl, ?_⟩) ?_ ?_
  rotate_left
  · intro w'
    go_simp
    try with_reducible rfl
  rotate_left
  · simp only [Act.put, List.setIfInBounds_toArray, List.set_cons_zero, List.set_cons_succ]
    rfl
  refine pure_ (i := 19) (N := some 45) (v := ?_) (a' := ?_) #[true, true, true, true, true, true, true, true, true, true, true, true, true, true, true, true, true, true, true, true, false, false, false, false, false, false, false, false, false, false, false, false, false, false, false, false, false, false, false, false] rfl rfl (by kernel_rfl) (fun _ _ _ h => h) (Or.inl ⟨by rfl, ?_⟩) ?_ ?_
  rotate_left
  · intro w'
    go_simp
    try with_reducible rfl
  rotate_left
  · simp only [Act.put, List.setIfInBounds_toArray, List.set_cons_zero, List.set_cons_succ]
    rfl
  refine pure_ (i := 20) (N := some 46) (v := ?_) (a' := ?_) #[true, true, true, true, true, true, true, true, true, true, true, true, true, true, true, true, true, true, true, true, true, false, false, false, false, false, false, false, false, false, false, false, false, false, false, false, false, false, false, false] rfl rfl (by kernel_rfl) (fun _ _ _ h => h) (Or.inl ⟨by rfl, ?_⟩) ?_ ?_
  rotate_left
  · intro w'
    go_simp
    try with_reducible rfl
  rotate_left
  · simp only [Act.put, List.setIfInBounds_toArray, List.set_cons_zero, List.set_cons_succ]
    rfl
  refine pure_ (i := 21) (N := some 47) (v := ?_) (a' := ?_) #[true, true, true, true, true, true, true, true, true, true, true, true, true, true, true, true, true, true, true, true, true, true, false, false, false, false, false, false, false, false, false, false, false, false, false, false, false, false, false, false] rfl rfl (by kernel_rfl) (fun _ _ _ h => h) (Or.inl ⟨by rfl, ?_⟩) ?_ ?_
  rotate_left
  · intro w'
    go_simp
    try with_reducible rfl
  rotate_left
  · simp only [Act.put, List.setIfInBounds_toArray, List.set_cons_zero, List.set_cons_succ]
    rfl
  refine pure_ (i := 22) (N := some 48) (v := ?_) (a' := ?_) #[true, true, true, true, true, true, true, true, true, true, true, true, true, true, true, true, true, true, true, true, true, true, true, false, false, false, false, false, false, false, false, false, false, false, false, false, false, false, false, false] rfl rfl (by kernel_rfl) (fun _ _ _ h => h) (Or.inl ⟨by rfl, ?_⟩) ?_ ?_
  rotate_left
  · intro w'
    go_simp
    try with_reducible rfl
  rotate_left
  · simp only [Act.put, List.setIfInBounds_toArray, List.set_cons_zero, List.set_cons_succ]
    rfl
  refine pure_ (i := 23) (N := some 49) (v := ?_) (a' := ?_) #[true, true, true, true, true, true, true, true, true, true, true, true, true, true, true, true, true, true, true, true, true, true, true, true, false, false, false, false, false, false, false, false, false, false, false, false, false, false, false, false] rfl rfl (by kernel_rfl) (fun _ _ _ h => h) (Or.inl ⟨by rfl, ?_⟩) ?_ ?_
  rotate_left
  · intro w'
    go_simp
    try with_reducible rfl
  rotate_left
  · simp only [Act.put, List.setIfInBounds_toArray, List.set_cons_zero, List.set_cons_succ]
    rfl
  refine pure_ (i := 24) (N := some 50) (v := ?_) (a' := ?_) #[true, true, true, true, true, true, true, true, true, true, true, true, true, true, true, true, true, true, true, true, true, true, true, true, true, false, false, false, false, false, false, false, false, false, false, false, false, false, false, false] rfl rfl (by kernel_rfl) (fun _ _ _ h => h) (Or.inl ⟨by rfl, ?_⟩) ?_ ?_
  rotate_left
  · intro w'
    go_simp
    try with_reducible rfl
  rotate_left
  · simp only [Act.put, List.setIfInBounds_toArray, List.set_cons_zero, List.set_cons_succ]
    rfl
  refine pure_ (i := 25) (N := some 51) (v := ?_) (a' := ?_) #[true, true, true, true, true, true, true, true, true, true, true, true, true, true, true, true, true, true, true, true, true, true, true, true, true, true, false, false, false, false, false, false, false, false, false, false, false, false, false, false] rfl rfl (by kernel_rfl) (fun _ _ _ h => h) (Or.inl ⟨by rfl, ?_⟩) ?_ ?_
  rotate_left
  · intro w'
    go_simp
    try with_reducible rfl
  rotate_left
  · simp only [Act.put, List.setIfInBounds_toArray, List.set_cons_zero, List.set_cons_succ]
    rfl
  refine take_ (i := 26) (N := some 52) (v := ?_) (a' := ?_) #[true, true, true, true, true, true, true, true, true, true, true, true, true, true, true, true, true, true, true, true, true, true, true, true, true, true, true, false, false, false, false, false, false, false, false, false, false, false, false, false] rfl rfl (by kernel_rfl) (fun _ _ _ h => h) (Or.inl ⟨by rfl, ?_⟩) hHeld ?_ ?_
  rotate_left
  · rintro w' ⟨s0, s1, s2, s3, s4, s5, s6, s7, s8⟩
    go_simp
    try with_reducible rfl
  rotate_left
  · simp only [Act.put, List.setIfInBounds_toArray, List.set_cons_zero, List.set_cons_succ]
    rfl
  refine pure_ (i := 27) (N := some 53) (v := ?_) (a' := ?_) #[true, true, true, true, true, true, true, true, true, true, true, true, true, true, true, true, true, true, true, true, true, true, true, true, true, true, true, true, false, false, false, false, false, false, false, false, false, false, false, false] rfl rfl (by kernel_rfl) (fun _ _ _ h => h) (Or.inl ⟨by rfl, ?_⟩) ?_ ?_
  rotate_left
  · intro w'
    go_simp
    try with_reducible rfl
  rotate_left
  · simp only [Act.put, List.setIfInBounds_toArray, List.set_cons_zero, List.set_cons_succ]
    rfl
  refine pure_ (i := 28) (N := some 54) (v := ?_) (a' := ?_) #[true, true, true, true, true, true, true, true, true, true, true, true, true, true, true, true, true, true, true, true, true, true, true, true, true, true, true, true, true, false, false, false, false, false, false, false, false, false, false, false] rfl rfl (by kernel_rfl) (fun _ _ _ h => h) (Or.inl ⟨by rfl, ?_⟩) ?_ ?_
  rotate_left
  · intro w'
    go_simp
    try with_reducible rfl
  rotate_left
  · simp only [Act.put, List.setIfInBounds_toArray, List.set_cons_zero, List.set_cons_succ]
    rfl
  refine pure_ (i := 29) (N := some 55) (v := ?_) (a' := ?_) #[true, true, true, true, true, true, true, true, true, true, true, true, true, true, true, true, true, true, true, true, true, true, true, true, true, true, true, true, true, true, false, false, false, false, false, false, false, false, false, false] rfl rfl (by kernel_rfl) (fun _ _ _ h => h) (Or.inl ⟨by rfl, ?_⟩) ?_ ?_
  rotate_left
  · intro w'
    go_simp
    try with_reducible rfl
  rotate_left
  · simp only [Act.put, List.setIfInBounds_toArray, List.set_cons_zero, List.set_cons_succ]
    rfl
  refine pure_ (i := 30) (N := some 56) (v := ?_) (a' := ?_) #[true, true, true, true, true, true, true, true, true, true, true, true, true, true, true, true, true, true, true, true, true, true, true, true, true, true, true, true, true, true, true, false, false, false, false, false, false, false, false, false] rfl rfl (by kernel_rfl) (fun _ _ _ h => h) (Or.inl ⟨by rfl, ?_⟩) ?_ ?_
  rotate_left
  · intro w'
    go_simp
    try with_reducible rfl
  rotate_left
  · simp only [Act.put, List.setIfInBounds_toArray, List.set_cons_zero, List.set_cons_succ]
    rfl
  refine take_ (i := 31) (N := some 57) (v := ?_) (a' := ?_) #[true, true, true, true, true, true, true, true, true, true, true, true, true, true, true, true, true, true, true, true, true, true, true, true, true, true, true, true, true, true, true, true, false, false, false, false, false, false, false, false] rfl rfl (by kernel_rfl) (fun _ _ _ h => h) (Or.inl ⟨by rfl, ?_⟩) hHeld ?_ ?_
  rotate_left
  · rintro w' ⟨s0, s1, s2, s3, s4, s5, s6, s7, s8⟩
    go_simp
    try with_reducible rfl
  rotate_left
  · simp only [Act.put, List.setIfInBounds_toArray, List.set_cons_zero, List.set_cons_succ]
    rfl
  refine pure_ (i := 32) (N := some 58) (v := ?_) (a' := ?_) #[true, true, true, true, true, true, true, true, true, true, true, true, true, true, true, true, true, true, true, true, true, true, true, true, true, true, true, true, true, true, true, true, true, false, false, false, false, false, false, false] rfl rfl (by kernel_rfl) (fun _ _ _ h => h) (Or.inl ⟨by rfl, ?_⟩) ?_ ?_
  rotate_left
  · intro w'
    go_simp
    try with_reducible rfl
  rotate_left
  · simp only [Act.put, List.setIfInBounds_toArray, List.set_cons_zero, List.set_cons_succ]
    rfl
  refine pure_ (i := 33) (N := some 59) (v := ?_) (a' := ?_) #[true, true, true, true, true, true, true, true, true, true, true, true, true, true, true, true, true, true, true, true, true, true, true, true, true, true, true, true, true, true, true, true, true, true, false, false, false, false, false, false] rfl rfl (by kernel_rfl) (fun _ _ _ h => h) (Or.inl ⟨by rfl, ?_⟩) ?_ ?_
  rotate_left
  · intro w'
    go_simp
    try with_reducible rfl
  rotate_left
  · simp only [Act.put, List.setIfInBounds_toArray, List.set_cons_zero, List.set_cons_succ]
    rfl
  refine pure_ (i := 34) (N := some 60) (v := ?_) (a' := ?_) #[true, true, true, true, true, true, true, true, true, true, true, true, true, true, true, true, true, true, true, true, true, true, true, true, true, true, true, true, true, true, true, true, true, true, true, false, false, false, false, false] rfl rfl (by kernel_rfl) (fun _ _ _ h => h) (Or.inl ⟨by rfl, ?_⟩) ?_ ?_
  rotate_left
  · intro w'
    go_simp
    try with_reducible rfl
  rotate_left
  · simp only [Act.put, List.setIfInBounds_toArray, List.set_cons_zero, List.set_cons_succ]
    rfl
  refine one_ (i := 35) (N := some 61) #[true, true, true, true, true, true, true, true, true, true, true, true, true, true, true, true, true, true, true, true, true, true, true, true, true, true, true, true, true, true, true, true, true, true, true, true, false, false, false, false] rfl rfl (by kernel_rfl) (by decide) (fun K hK => ?_)
  go_simp
  refine (I9.out _ hHeld.1).mono ?_
  rintro e w6 ⟨rfl, hb6⟩
  refine hK.out _ _ (KK3.out _ hb6) (fun hHeld => ?_)
  clear hK K
  try simp only [Act.put, List.setIfInBounds_toArray, List.set_cons_zero, List.set_cons_succ]
  refine one_ (i := 36) (N := some 62) #[true, true, true, true, true, true, true, true, true, true, true, true, true, true, true, true, true, true, true, true, true, true, true, true, true, true, true, true, true, true, true, true, true, true, true, true, true, false, false, false] rfl rfl (by kernel_rfl) (by decide) (fun K hK => ?_)
  go_simp
  refine (I11.out _ hHeld.1).mono ?_
  rintro e w7 ⟨rfl, hbz⟩
  refine hK.out _ _ (KK3.out _ hbz) (fun hHeld => ?_)
  clear hK K
  try simp only [Act.put, List.setIfInBounds_toArray, List.set_cons_zero, List.set_cons_succ]
  refine pure_ (i := 37) (N := some 63) (v := ?_) (a' := ?_) #[true, true, true, true, true, true, true, true, true, true, true, true, true, true, true, true, true, true, true, true, true, true, true, true, true, true, true, true, true, true, true, true, true, true, true, true, true, true, false, false] rfl rfl (by kernel_rfl) (fun _ _ _ h => h) (Or.inl ⟨by rfl, ?_⟩) ?_ ?_
  rotate_left
  · intro w'
    go_simp
    try with_reducible rfl
  rotate_left
  · simp only [Act.put, List.setIfInBounds_toArray, List.set_cons_zero, List.set_cons_succ]
    rfl
  refine pure_ (i := 38) (N := some 64) (v := ?_) (a' := ?_) #[true, true, true, true, true, true, true, true, true, true, true, true, true, true, true, true, true, true, true, true, true, true, true, true, true, true, true, true, true, true, true, true, true, true, true, true, true, true, true, false] rfl rfl (by kernel_rfl) (fun _ _ _ h => h) (Or.inl ⟨by rfl, ?_⟩) ?_ ?_
  rotate_left
  · intro w'
    go_simp
    try with_reducible rfl
  rotate_left
  · simp only [Act.put, List.setIfInBounds_toArray, List.set_cons_zero, List.set_cons_succ]
    rfl
  refine pure_ (i := 39) (N := some 0) (v := ?_) (a' := ?_) #[true, true, true, true, true, true, true, true, true, true, true, true, true, true, true, true, true, true, true, true, true, true, true, true, true, true, true, true, true, true, true, true, true, true, true, true, true, true, true, true] rfl rfl (by kernel_rfl) (fun _ _ _ h => h) (Or.inl ⟨by rfl, ?_⟩) ?_ ?_
  rotate_left
  · intro w'
    go_simp
    try with_reducible rfl
  rotate_left
  · simp only [Act.put, List.setIfInBounds_toArray, List.set_cons_zero, List.set_cons_succ]
    rfl
  refine done_ (by kernel_rfl) ?_
  go_wp2
  go_ret
  exact ⟨rfl, Below.trans HLL.out (hbz.mono HLL.out.size)⟩
end Go.Proofs.Ytpnkaoigpefmiaa
