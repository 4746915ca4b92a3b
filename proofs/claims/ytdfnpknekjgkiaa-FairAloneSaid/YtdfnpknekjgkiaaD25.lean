/- Next. -/
import Derived.Test.YtdfnpknekjgkiaaD24
import Derived.Test.YtdfnpknekjgkiaaWLast
namespace Go.Proofs.Ytdfnpknekjgkiaa
open Go.RowKit
open Go.Proofs.YtdfnpknekjgkiaaW.PrintLast
set_option linter.unusedVariables false
set_option linter.unusedSimpArgs false

/-- The error of Next. -/
def nxE (t : Int) (xs : List Int) (l : Shares) (n : Nat) (cs : List Int) (Q : Int) : Int := if exOf t xs l n cs Q ≠ 0 then exOf t xs l n cs Q else if n = 0 then 11 else 0
/-- What Next returns beside the error. -/
def nxG (t : Int) (xs : List Int) (l : Shares) (ts : List ByteArray) (cs : List Int) (Q : Int) : St × Nat := if nxE t xs l ts.length cs Q = 0 then (cfgOf l cs Q).go (frontsOf l ts (List.replicate ts.length false)) (t.toNat, xs) else ((0, []), 0)
def NextR (t : Int) (xs : List Int) (l : Shares) (ts : List ByteArray) (cs : List Int) (Q : Int) (w : World) (e : Ending) (w' : World) : Prop :=
  ∃ a c, e = .returned (.tuple #[.agg #[.int .i64 (nxG t xs l ts cs Q).1.1, .slice a (nxG t xs l ts cs Q).1.2.length c], .int .i64 (nxG t xs l ts cs Q).2, .int .i64 (nxE t xs l ts.length cs Q)]) ∧ Ints .i64 w' a (nxG t xs l ts cs Q).1.2 ∧ (nxG t xs l ts cs Q).1.2.length ≤ c ∧ Below w.heap.size w w'
theorem NextR.err {t : Int} {xs : List Int} {l : Shares} {ts : List ByteArray} {cs : List Int} {Q : Int} {w w' : World} {k : Int} (h : nxE t xs l ts.length cs Q = k) (hk : k ≠ 0) (hb : Below w.heap.size w w') : NextR t xs l ts cs Q w (.returned (.tuple #[.agg #[.int .i64 0, .slice none 0 0], .int .i64 0, .int .i64 k])) w' := by
  have hg : nxG t xs l ts cs Q = ((0, []), 0) := by unfold nxG; rw [if_neg (by rw [h]; exact hk)]
  refine ⟨none, 0, ?_, ?_, ?_, hb⟩
  · rw [hg, h]; rfl
  · rw [hg]; exact .inl rfl
  · rw [hg]; exact Nat.le_refl _
theorem NextR.ok {t : Int} {xs : List Int} {l : Shares} {ts : List ByteArray} {cs : List Int} {Q : Int} {w w' : World} {r : St × Nat} {g c : Nat} (h : nxE t xs l ts.length cs Q = 0) (hr : r = (cfgOf l cs Q).go (frontsOf l ts (List.replicate ts.length false)) (t.toNat, xs)) {base : Nat} (hR : RowI w' base g c r.1.2) (hb : Below w.heap.size w w') : NextR t xs l ts cs Q w (.returned (.tuple #[.agg #[.int .i64 r.1.1, .slice (some ⟨g, 0, none⟩) r.1.2.length c], .int .i64 r.2, .int .i64 0])) w' := by
  have hg : nxG t xs l ts cs Q = r := by unfold nxG; rw [if_pos h, hr]
  refine ⟨some ⟨g, 0, none⟩, c, ?_, ?_, ?_, hb⟩
  · rw [hg, h]
  · rw [hg]; exact hR.vals.ints
  · rw [hg]; exact hR.cap_le
theorem exOf_good {t : Int} {xs : List Int} {l : Shares} {ts : List ByteArray} {cs : List Int} {Q : Int} (h : exOf t xs l ts.length cs Q = 0) : ∃ t' : Nat, t = t' ∧ Good l ts cs Q ∧ l.length ≤ 64 ∧ ts.length ≤ 64 ∧ (cfgOf l cs Q).In (t', xs) := by
  unfold exOf at h
  by_cases h1 : ckOf l ≠ 0
  · rw [if_pos h1] at h; exact absurd h h1
  rw [if_neg h1] at h
  by_cases h2 : ¬ stOk t xs l.length
  · rw [if_pos h2] at h; cases h
  rw [if_neg h2] at h
  obtain ⟨g, hl, ht⟩ := errOf_good (show errOf l ts.length cs Q = 0 by unfold errOf; rw [if_neg h1]; exact h)
  obtain ⟨⟨h3, h4⟩, h5, h6⟩ := Classical.not_not.1 h2
  have h7 := badIn_false h6
  have h8 : ∀ p, 0 ≤ xs.getD p 0 ∧ xs.getD p 0 ≤ 1125899906842624 := fun p => by
    by_cases hp : p < xs.length
    · rw [List.getD_eq_getElem?_getD, List.getElem?_eq_getElem hp]; exact h7 _ (List.getElem_mem hp)
    · rw [List.getD_eq_getElem?_getD, List.getElem?_eq_none (by omega)]; exact ⟨Int.le_refl _, by decide⟩
  refine ⟨t.toNat, by omega, g, hl, ht, ⟨?_, h5, fun p => (h8 p).1, fun p _ => (h8 p).2, ?_⟩⟩
  · show t.toNat ≤ l.length; omega
  · have := (h8 t.toNat).2
    show xs.getD t.toNat 0 ≤ _
    omega
theorem rep_false (n : Nat) (h : 0 < n) : ∃ j, (List.replicate n false).getD j true = false := ⟨0, by simp [List.getD_eq_getElem?_getD, List.getElem?_replicate, h]⟩
/-- The blocks of a function's argument and result, both set before the first step. -/
theorem res_world {T B n : Nat} {w W : World} {cs : Array Value} {u v : Value} (B1 : Blk W B T cs) (hs : cs.size = 2) (L : Below n w W) (hB : n ≤ B) : Blk ((W.setCell ⟨B, 0, none⟩ u).setCell ⟨B, 1, none⟩ v) B T #[u, v] ∧ Below n w ((W.setCell ⟨B, 0, none⟩ u).setCell ⟨B, 1, none⟩ v) := by
  refine ⟨?_, (L.setCell (p := ⟨B, 0, none⟩) hB u).setCell (p := ⟨B, 1, none⟩) hB v⟩
  have h := (B1.set 0 u).set 1 v
  have e : (cs.setIfInBounds 0 u).setIfInBounds 1 v = #[u, v] := by
    rcases cs with ⟨cs⟩
    match cs, hs with
    | [a, b], _ => rfl
  rw [e] at h; exact h
set_option maxRecDepth 100000 in
set_option maxHeartbeats 4000000 in
theorem next_any (t : Int) (xs : List Int) (l : Shares) (ts : List ByteArray) (cs : List Int) (Q : Int) (w : World) (ax aq al acs : Option Addr) (cx cq cl ccs : Nat)
    (hxs : Ints .i64 w ax xs) (hcx : xs.length ≤ cx) (hxn : ax = none → cx = 0) (hlx : xs.length ≤ 1000000) (hq : Rqs w aq ts) (hx : Shs w al l) (hcs : Ints .i64 w acs cs) (hc : l.length ≤ cl) (hl : l.length ≤ 1000000) (hcq : ts.length ≤ cq) (htl : ts.length ≤ 1000000) (hccs : cs.length ≤ ccs) (hcl : cs.length ≤ 1000000) :
    Calls Try.prog 23 #[.agg #[.int .i64 t, .slice ax xs.length cx], .slice al l.length cl, .slice aq ts.length cq, .slice acs cs.length ccs, .int .i64 Q] w (NextR t xs l ts cs Q w) := by
  obtain ⟨W1, hW1⟩ : ∃ W1, W1 = (w.alloc (.cells #[.int .i64 t, .slice ax xs.length cx] 31)).alloc (.cells #[.int .i64 0, .slice none 0 0] 31) := ⟨_, rfl⟩
  have hb1 : Below w.heap.size w W1 := by rw [hW1]; exact below_alloc (below_alloc (Below.refl _ _) _) _
  have A1 : Blk W1 w.heap.size 31 #[.int .i64 t, .slice ax xs.length cx] := by rw [hW1]; exact (Blk.new w 31 _).alloc _
  have B1 : Blk W1 (w.heap.size + 1) 31 #[.int .i64 0, .slice none 0 0] := by
    have := Blk.new (w.alloc (.cells #[.int .i64 t, .slice ax xs.length cx] 31)) 31 #[.int .i64 0, .slice none 0 0]
    simp only [World.size_alloc] at this; rw [hW1]; exact this
  have EX := Lib.hid (examine_any t xs ax cx l al cl ts.length aq cq Q cs acs ccs W1 (hxs.below hb1) hcx hlx (hx.below hb1) hc hl (hcs.below hb1) hccs hcl htl)
  have k0 : W1.cell? ⟨w.heap.size, 0, none⟩ = some (.int .i64 t) := A1.cell 0
  have k1 : W1.cell? ⟨w.heap.size, 1, none⟩ = some (.slice ax xs.length cx) := A1.cell 1
  have HB := Lib.hid (And.intro hb1 (And.intro A1 B1))
  rw [hW1] at k0 k1
  clear A1 B1 hb1
  by_cases hex : exOf t xs l ts.length cs Q = 0
  case neg =>
    have HA : Hid (nxE t xs l ts.length cs Q = exOf t xs l ts.length cs Q) := Lib.hid (by unfold nxE; rw [if_pos hex])
    have q : (exOf t xs l ts.length cs Q != 0) = true := by rw [bne_iff_ne]; exact hex
    have HN := Lib.hid hex
    obtain ⟨ck, hck⟩ : ∃ ck, exOf t xs l ts.length cs Q = ck := ⟨_, rfl⟩
    rw [hck] at EX q HA HN
    clear hex hck hx hq hcs hxs
    go_enter Try.func23, Try.ntmps23
    go_wp2_with fail
    rw [← hW1]
    refine EX.out.mono ?_
    rintro e w2 ⟨rfl, hb2⟩
    clear hW1 k0 k1
    have B2 := HB.out.2.2.below hb2
    have C2 := HB.out.2.1.below hb2
    have L2 := Below.next HB.out.1 hb2
    have d0 : w2.cell? ⟨w.heap.size + 1, 0, none⟩ = some (.int .i64 0) := B2.cell 0
    have d1 : w2.cell? ⟨w.heap.size + 1, 1, none⟩ = some (.slice none 0 0) := B2.cell 1
    have d2 := fun j => B2.free j
    have d3 : w2.cell? ⟨w.heap.size, 0, none⟩ = some (.int .i64 t) := C2.cell 0
    have d4 : w2.cell? ⟨w.heap.size, 1, none⟩ = some (.slice ax xs.length cx) := C2.cell 1
    have d5 := fun j => C2.free j
    have hlt : w.heap.size + 1 < w2.heap.size := B2.lt
    have HM := Lib.hid (And.intro B2 L2)
    have HC := Lib.hid C2
    clear B2 L2 hb2 C2
    go_wp2
    obtain ⟨BA, LA⟩ := res_world (u := .int .i64 0) (v := .slice none 0 0) (HM.out.1) rfl (HM.out.2) (by omega : w.heap.size ≤ w.heap.size + 1)
    obtain ⟨W4, hW4⟩ : ∃ W4, W4 = ((w2.setCell ⟨w.heap.size + 1, 0, none⟩ (.int .i64 0)).setCell ⟨w.heap.size + 1, 1, none⟩ (.slice none 0 0)) := ⟨_, rfl⟩
    rw [← hW4] at BA LA ⊢
    have e0 : W4.cell? ⟨w.heap.size + 1, 0, none⟩ = some (.int .i64 0) := BA.cell 0
    have e1 : W4.cell? ⟨w.heap.size + 1, 1, none⟩ = some (.slice none 0 0) := BA.cell 1
    refine bodyPost_ret (v := .tuple #[.agg #[.int .i64 0, .slice none 0 0], .int .i64 0, .int .i64 ck]) (by simp [results, Try.results23, Try.f23, go_sem, e0, e1]) rfl ?_
    exact NextR.err HA.out (HN.out) LA

  have HEX := Lib.hid hex
  rw [hex] at EX
  by_cases hn : ts.length = 0
  case pos =>
    have HA : Hid (nxE t xs l ts.length cs Q = 11) := Lib.hid (by unfold nxE; rw [if_neg (fun h => h hex), if_pos hn])
    have HN : Hid ((11 : Int) ≠ 0) := Lib.hid (by decide)
    have hn' : ts = [] := List.eq_nil_of_length_eq_zero hn
    subst hn'
    clear hx hq hcs hxs hex hn
    go_enter Try.func23, Try.ntmps23
    go_wp2_with fail
    rw [← hW1]
    refine EX.out.mono ?_
    rintro e w2 ⟨rfl, hb2⟩
    clear hW1 k0 k1
    have B2 := HB.out.2.2.below hb2
    have C2 := HB.out.2.1.below hb2
    have L2 := Below.next HB.out.1 hb2
    have d0 : w2.cell? ⟨w.heap.size + 1, 0, none⟩ = some (.int .i64 0) := B2.cell 0
    have d1 : w2.cell? ⟨w.heap.size + 1, 1, none⟩ = some (.slice none 0 0) := B2.cell 1
    have d2 := fun j => B2.free j
    have d3 : w2.cell? ⟨w.heap.size, 0, none⟩ = some (.int .i64 t) := C2.cell 0
    have d4 : w2.cell? ⟨w.heap.size, 1, none⟩ = some (.slice ax xs.length cx) := C2.cell 1
    have d5 := fun j => C2.free j
    have hlt : w.heap.size + 1 < w2.heap.size := B2.lt
    have HM := Lib.hid (And.intro B2 L2)
    have HC := Lib.hid C2
    clear B2 L2 hb2 C2
    go_wp2
    obtain ⟨BA, LA⟩ := res_world (u := .int .i64 0) (v := .slice none 0 0) (HM.out.1) rfl (HM.out.2) (by omega : w.heap.size ≤ w.heap.size + 1)
    obtain ⟨W4, hW4⟩ : ∃ W4, W4 = ((w2.setCell ⟨w.heap.size + 1, 0, none⟩ (.int .i64 0)).setCell ⟨w.heap.size + 1, 1, none⟩ (.slice none 0 0)) := ⟨_, rfl⟩
    rw [← hW4] at BA LA ⊢
    have e0 : W4.cell? ⟨w.heap.size + 1, 0, none⟩ = some (.int .i64 0) := BA.cell 0
    have e1 : W4.cell? ⟨w.heap.size + 1, 1, none⟩ = some (.slice none 0 0) := BA.cell 1
    refine bodyPost_ret (v := .tuple #[.agg #[.int .i64 0, .slice none 0 0], .int .i64 0, .int .i64 11]) (by simp [results, Try.results23, Try.f23, go_sem, e0, e1]) rfl ?_
    exact NextR.err HA.out (HN.out) LA

  have HA : Hid (nxE t xs l ts.length cs Q = 0) := Lib.hid (by unfold nxE; rw [if_neg (fun h => h hex), if_neg hn])
  obtain ⟨t', rfl, g, hl64, htl64, hin⟩ := exOf_good hex
  have q1 : decide ((ts.length : Int) = 0) = false := decide_eq_false (by omega)
  have q2 : ((ts.length : Int) == 0) = false := by rw [beq_eq_false_iff_ne]; omega
  have q3 : (ts.length == 0) = false := by rw [beq_eq_false_iff_ne]; omega
  have hmk : ∀ W : World, (Instr.makeSlice 67 (.int .i64 (ts.length : Int)) (.int .i64 (ts.length : Int))).run Try.prog W = .ok (.slice (some ⟨W.heap.size, 0, none⟩) ts.length ts.length) (W.alloc (.cells (madeCells #[.bool false] ts.length) 4)) := fun W => by
    have := (make_bools W 0 ts.length (by omega) (Nat.zero_le _)).1
    rw [Nat.mul_one] at this
    exact this
  replace hn := Lib.hid hn
  replace hex := Lib.hid hex
  have SV := Lib.hid (fun wx gd (hb : Below w.heap.size w wx) (hR : RowB wx 0 gd ts.length (List.replicate ts.length false)) => serve_any l ts cs Q (List.replicate ts.length false) (t', xs) wx ax aq (some ⟨gd, 0, none⟩) al acs cx cq ts.length cl ccs g hin (hxs.below hb) (hq.below hb) (hx.below hb) (hcs.below hb) hR.vals (by simp) hc hl64 (by simp) hcq htl64 hccs hcx hxn (rep_false _ (by have := hn.out; omega)))
  clear hx hq hcs hxs g hin
  go_enter Try.func23, Try.ntmps23
  go_wp2_with fail
  rw [← hW1]
  refine EX.out.mono ?_
  rintro e w2 ⟨rfl, hb2⟩
  clear hW1 k0 k1
  have B2 := HB.out.2.2.below hb2
  have C2 := HB.out.2.1.below hb2
  have L2 := Below.next HB.out.1 hb2
  have d0 : w2.cell? ⟨w.heap.size + 1, 0, none⟩ = some (.int .i64 0) := B2.cell 0
  have d1 : w2.cell? ⟨w.heap.size + 1, 1, none⟩ = some (.slice none 0 0) := B2.cell 1
  have d2 := fun j => B2.free j
  have d3 : w2.cell? ⟨w.heap.size, 0, none⟩ = some (.int .i64 t') := C2.cell 0
  have d4 : w2.cell? ⟨w.heap.size, 1, none⟩ = some (.slice ax xs.length cx) := C2.cell 1
  have d5 := fun j => C2.free j
  have hlt : w.heap.size + 1 < w2.heap.size := B2.lt
  have HM := Lib.hid (And.intro B2 L2)
  have HC := Lib.hid C2
  clear B2 L2 hb2 C2

  have KK : Hid (∀ wx, Below w2.heap.size w2 wx →  Below w2.heap.size w2 wx ∧ wx.cell? ⟨w.heap.size, 0, none⟩ = some (.int .i64 t') ∧ wx.cell? ⟨w.heap.size, 1, none⟩ = some (.slice ax xs.length cx) ∧ (∀ j, wx.frozen? ⟨w.heap.size, j, none⟩ = false)) := Lib.hid fun wx hb => ⟨hb, below_keep hb d3, below_keep hb d4, fun j => (HC.out.below hb).free j⟩
  have HRB : Hid (RowB (w2.alloc (.cells (madeCells #[.bool false] ts.length) 4)) 0 w2.heap.size ts.length (List.replicate ts.length false)) := Lib.hid (by
    have := (make_bools w2 0 ts.length (by omega) (Nat.zero_le _)).2
    rw [Nat.mul_one] at this
    exact this)
  have I2 : Hid (∀ wx, RowB wx 0 w2.heap.size ts.length (List.replicate ts.length false) → Below w2.heap.size w2 wx → Calls Try.prog 27 #[.agg #[.int .i64 t', .slice ax xs.length cx], .slice al l.length cl, .slice aq ts.length cq, .slice acs cs.length ccs, .slice (some ⟨w2.heap.size, 0, none⟩) ts.length ts.length, .int .i64 Q] wx fun e w' => ∃ (r : St × Nat) (g c : Nat), r = (cfgOf l cs Q).go (frontsOf l ts (List.replicate ts.length false)) (t', xs) ∧ e = .returned (.tuple #[.agg #[.int .i64 r.1.1, .slice (some ⟨g, 0, none⟩) r.1.2.length c], .int .i64 r.2]) ∧ RowI w' w2.heap.size g c r.1.2 ∧ Below w2.heap.size w2 w') := Lib.hid fun wx hR hb => by
    have := SV.out wx w2.heap.size (Below.next HM.out.2 hb) hR
    rw [List.length_replicate] at this
    refine this.mono ?_
    rintro e w' ⟨r, g, c, h1, h2, h3, h4⟩
    exact ⟨r, g, c, h1, h2, h3.mono hb.size, Below.next hb h4⟩
  have S0 := KK.out w2.drew (Below.refl _ _).drew
  clear SV EX
  go_wp2_with fail
  refine start_ (n := 14) (S := (fun wx => Below w2.heap.size w2 wx ∧ wx.cell? ⟨w.heap.size, 0, none⟩ = some (.int .i64 t') ∧ wx.cell? ⟨w.heap.size, 1, none⟩ = some (.slice ax xs.length cx) ∧ (∀ j, wx.frozen? ⟨w.heap.size, j, none⟩ = false))) (ds := [12]) #[false, false, false, false, false, false, false, false, false, false, false, false, false, false] (by kernel_rfl) rfl rfl S0 (fun hHeld => ?_)
  refine take_ (i := 0) (N := some 30) (v := ?_) (a' := ?_) #[true, false, false, false, false, false, false, false, false, false, false, false, false, false] rfl rfl (by kernel_rfl) (fun _ _ _ h => h) (Or.inl ⟨by rfl, ?_⟩) hHeld ?_ ?_
  rotate_left
  · rintro w' ⟨s0, s1, s2, s3⟩
    go_simp
    try with_reducible rfl
  rotate_left
  · simp only [Act.put, List.setIfInBounds_toArray, List.set_cons_zero, List.set_cons_succ]
    rfl
  refine pure_ (i := 1) (N := some 31) (v := ?_) (a' := ?_) #[true, true, false, false, false, false, false, false, false, false, false, false, false, false] rfl rfl (by kernel_rfl) (fun _ _ _ h => h) (Or.inl ⟨by rfl, ?_⟩) ?_ ?_
  rotate_left
  · intro w'
    go_simp
    try with_reducible rfl
  rotate_left
  · simp only [Act.put, List.setIfInBounds_toArray, List.set_cons_zero, List.set_cons_succ]
    rfl
  refine pure_ (i := 2) (N := some 32) (v := ?_) (a' := ?_) #[true, true, true, false, false, false, false, false, false, false, false, false, false, false] rfl rfl (by kernel_rfl) (fun _ _ _ h => h) (Or.inl ⟨by rfl, ?_⟩) ?_ ?_
  rotate_left
  · intro w'
    go_simp
    try with_reducible rfl
  rotate_left
  · simp only [Act.put, List.setIfInBounds_toArray, List.set_cons_zero, List.set_cons_succ]
    rfl
  refine pure_ (i := 3) (N := some 33) (v := ?_) (a' := ?_) #[true, true, true, true, false, false, false, false, false, false, false, false, false, false] rfl rfl (by kernel_rfl) (fun _ _ _ h => h) (Or.inl ⟨by rfl, ?_⟩) ?_ ?_
  rotate_left
  · intro w'
    go_simp
    try with_reducible rfl
  rotate_left
  · simp only [Act.put, List.setIfInBounds_toArray, List.set_cons_zero, List.set_cons_succ]
    rfl
  refine pure_ (i := 4) (N := some 34) (v := ?_) (a' := ?_) #[true, true, true, true, true, false, false, false, false, false, false, false, false, false] rfl rfl (by kernel_rfl) (fun _ _ _ h => h) (Or.inl ⟨by rfl, ?_⟩) ?_ ?_
  rotate_left
  · intro w'
    go_simp
    try with_reducible rfl
  rotate_left
  · simp only [Act.put, List.setIfInBounds_toArray, List.set_cons_zero, List.set_cons_succ]
    rfl
  refine pure_ (i := 5) (N := some 35) (v := ?_) (a' := ?_) #[true, true, true, true, true, true, false, false, false, false, false, false, false, false] rfl rfl (by kernel_rfl) (fun _ _ _ h => h) (Or.inl ⟨by rfl, ?_⟩) ?_ ?_
  rotate_left
  · intro w'
    go_simp
    try with_reducible rfl
  rotate_left
  · simp only [Act.put, List.setIfInBounds_toArray, List.set_cons_zero, List.set_cons_succ]
    rfl
  refine pure_ (i := 7) (N := some 37) (v := ?_) (a' := ?_) #[true, true, true, true, true, true, false, true, false, false, false, false, false, false] rfl rfl (by kernel_rfl) (fun _ _ _ h => h) (Or.inl ⟨by rfl, ?_⟩) ?_ ?_
  rotate_left
  · intro w'
    go_simp
    try with_reducible rfl
  rotate_left
  · simp only [Act.put, List.setIfInBounds_toArray, List.set_cons_zero, List.set_cons_succ]
    rfl
  refine one_ (i := 6) (N := some 36) #[true, true, true, true, true, true, true, true, false, false, false, false, false, false] rfl rfl (by kernel_rfl) (by decide) (fun K hK => ?_)
  go_simp
  refine hK.out _ _ (KK.out _ (below_alloc' (Below.refl _ _).drew _)) (fun hHeld => ?_)
  clear hK K
  try simp only [Act.put, List.setIfInBounds_toArray, List.set_cons_zero, List.set_cons_succ]
  refine one_ (i := 8) (N := some 38) #[true, true, true, true, true, true, true, true, true, false, false, false, false, false] rfl rfl (by kernel_rfl) (by decide) (fun K hK => ?_)
  go_simp
  refine (I2.out _ (by exact HRB.out) hHeld.1).mono ?_
  rintro e w6 ⟨r, g6, c6, hr, rfl, R6, L6⟩
  have hs6 : (List.replicate ts.length false).length = ts.length := by simp
  replace hr := Lib.hid hr
  replace R6 := Lib.hid R6
  replace L6 := Lib.hid L6
  refine hK.out _ _ (KK.out _ (L6.out)) (fun hHeld => ?_)
  clear hK K
  try simp only [Act.put, List.setIfInBounds_toArray, List.set_cons_zero, List.set_cons_succ]
  refine pure_ (i := 9) (N := some 29) (v := ?_) (a' := ?_) #[true, true, true, true, true, true, true, true, true, true, false, false, false, false] rfl rfl (by kernel_rfl) (fun _ _ _ h => h) (Or.inl ⟨by rfl, ?_⟩) ?_ ?_
  rotate_left
  · intro w'
    go_simp
    try with_reducible rfl
  rotate_left
  · simp only [Act.put, List.setIfInBounds_toArray, List.set_cons_zero, List.set_cons_succ]
    rfl
  refine pure_ (i := 10) (N := some 39) (v := ?_) (a' := ?_) #[true, true, true, true, true, true, true, true, true, true, true, false, false, false] rfl rfl (by kernel_rfl) (fun _ _ _ h => h) (Or.inl ⟨by rfl, ?_⟩) ?_ ?_
  rotate_left
  · intro w'
    go_simp
    try with_reducible rfl
  rotate_left
  · simp only [Act.put, List.setIfInBounds_toArray, List.set_cons_zero, List.set_cons_succ]
    rfl
  refine pure_ (i := 11) (N := some 40) (v := ?_) (a' := ?_) #[true, true, true, true, true, true, true, true, true, true, true, true, false, false] rfl rfl (by kernel_rfl) (fun _ _ _ h => h) (Or.inl ⟨by rfl, ?_⟩) ?_ ?_
  rotate_left
  · intro w'
    go_simp
    try with_reducible rfl
  rotate_left
  · simp only [Act.put, List.setIfInBounds_toArray, List.set_cons_zero, List.set_cons_succ]
    rfl
  refine last_ (i := 12) (N := none) #[true, true, true, true, true, true, true, true, true, true, true, true, true, false] rfl rfl (by kernel_rfl) (by decide) (fun K hK => ?_)
  go_simp
  refine hK.out _ _ ?_
  clear hK K
  try simp only [Act.put, List.setIfInBounds_toArray, List.set_cons_zero, List.set_cons_succ]
  refine pure_ (i := 13) (N := some 14) (v := ?_) (a' := ?_) #[true, true, true, true, true, true, true, true, true, true, true, true, true, true] rfl rfl (by kernel_rfl) (fun _ _ _ h => h) (Or.inl ⟨by rfl, ?_⟩) ?_ ?_
  rotate_left
  · intro w'
    go_simp
    try with_reducible rfl
  rotate_left
  · simp only [Act.put, List.setIfInBounds_toArray, List.set_cons_zero, List.set_cons_succ]
    rfl
  refine done_ (by kernel_rfl) ?_
  have hg6 := R6.out.lt.1
  have hg60 : g6 ≠ w.heap.size := by omega
  have hg61 : g6 ≠ w.heap.size + 1 := by omega
  have B7 := ((HC.out.below L6.out).set 0 (.int .i64 r.1.1)).set 1 (.slice (some ⟨g6, 0, none⟩) r.1.2.length c6)
  have C7 := ((HM.out.1.below L6.out).other 0 (by omega : w.heap.size + 1 ≠ w.heap.size) (.int .i64 r.1.1)).other 1 (by omega : w.heap.size + 1 ≠ w.heap.size) (.slice (some ⟨g6, 0, none⟩) r.1.2.length c6)
  have R7 := (R6.out.other 0 hg60 (.int .i64 r.1.1)).other 1 hg60 (.slice (some ⟨g6, 0, none⟩) r.1.2.length c6)
  have L7 := ((Below.next HM.out.2 L6.out).setCell (p := ⟨w.heap.size, 0, none⟩) (Nat.le_refl _) (.int .i64 r.1.1)).setCell (p := ⟨w.heap.size, 1, none⟩) (Nat.le_refl _) (.slice (some ⟨g6, 0, none⟩) r.1.2.length c6)
  obtain ⟨W7, hW7⟩ : ∃ W7, W7 = (w6.setCell ⟨w.heap.size, 0, none⟩ (.int .i64 r.1.1)).setCell ⟨w.heap.size, 1, none⟩ (.slice (some ⟨g6, 0, none⟩) r.1.2.length c6) := ⟨_, rfl⟩
  rw [← hW7] at B7 C7 R7 L7 ⊢
  clear hW7 hHeld S0 d0 d1 d2 d3 d4 d5 hlt
  have d0 : W7.cell? ⟨w.heap.size, 0, none⟩ = some (.int .i64 r.1.1) := B7.cell 0
  have d1 : W7.cell? ⟨w.heap.size, 1, none⟩ = some (.slice (some ⟨g6, 0, none⟩) r.1.2.length c6) := B7.cell 1
  have d2 : W7.cell? ⟨w.heap.size + 1, 0, none⟩ = some (.int .i64 0) := C7.cell 0
  have d3 : W7.cell? ⟨w.heap.size + 1, 1, none⟩ = some (.slice none 0 0) := C7.cell 1
  have d4 := fun j => C7.free j
  have H7 := Lib.hid (And.intro C7 (And.intro R7 L7))
  clear B7 C7 R7 L7 R6 L6 HM HC
  go_wp2
  obtain ⟨BA, LA⟩ := res_world (u := .int .i64 r.1.1) (v := .slice (some ⟨g6, 0, none⟩) r.1.2.length c6) (H7.out.1) rfl (H7.out.2.2) (by omega : w.heap.size ≤ w.heap.size + 1)
  have RA := (H7.out.2.1.other 0 hg61 (.int .i64 r.1.1)).other 1 hg61 (.slice (some ⟨g6, 0, none⟩) r.1.2.length c6)
  obtain ⟨W4, hW4⟩ : ∃ W4, W4 = ((W7.setCell ⟨w.heap.size + 1, 0, none⟩ (.int .i64 r.1.1)).setCell ⟨w.heap.size + 1, 1, none⟩ (.slice (some ⟨g6, 0, none⟩) r.1.2.length c6)) := ⟨_, rfl⟩
  rw [← hW4] at BA LA RA ⊢
  have e0 : W4.cell? ⟨w.heap.size + 1, 0, none⟩ = some (.int .i64 r.1.1) := BA.cell 0
  have e1 : W4.cell? ⟨w.heap.size + 1, 1, none⟩ = some (.slice (some ⟨g6, 0, none⟩) r.1.2.length c6) := BA.cell 1
  refine bodyPost_ret (v := .tuple #[.agg #[.int .i64 r.1.1, .slice (some ⟨g6, 0, none⟩) r.1.2.length c6], .int .i64 r.2, .int .i64 0]) (by simp [results, Try.results23, Try.f23, go_sem, e0, e1]) rfl ?_
  exact NextR.ok HA.out hr.out RA LA
end Go.Proofs.Ytdfnpknekjgkiaa
