/- Shares and requests in memory; parties and weights, in the program and in the reference. -/
import Derived.Test.YtdfnpknekjgkiaaC
import Derived.Test.YtdfnpknekjgkiaaF2
namespace Go.Proofs.Ytdfnpknekjgkiaa
open Go.RowKit
set_option linter.unusedVariables false
set_option linter.unusedSimpArgs false


/-- Shares at a read. -/
def Shs (w : World) (a : Option Addr) (l : Shares) : Prop := l = [] ∨ ∃ x, a = some x ∧ ∀ (k : Nat) (s : ByteArray × Int), l[k]? = some s → w.cell? (x.add (k * 2)) = some (.string s.1) ∧ w.cell? ⟨(x.add (k * 2)).block, (x.add (k * 2)).off + 1, none⟩ = some (.int .i64 s.2)
theorem Shs.below {w w' : World} {a : Option Addr} {l : Shares} (h : Shs w a l) (hb : Below w.heap.size w w') : Shs w' a l := by
  rcases h with h | ⟨x, hx, h⟩
  · exact .inl h
  · refine .inr ⟨x, hx, fun k s hk => ?_⟩
    obtain ⟨h1, h2⟩ := h k s hk
    exact ⟨by rw [hb.cell (World.block_lt_of_cell? _ _ h1)]; exact h1, by rw [hb.cell (World.block_lt_of_cell? _ _ h2)]; exact h2⟩
theorem Shs.at {w : World} {a : Option Addr} {l : Shares} (h : Shs w a l) {k : Nat} (hk : k < l.length) : ∃ x, a = some x ∧ w.cell? (x.add (k * 2)) = some (.string l[k].1) ∧ w.cell? ⟨(x.add (k * 2)).block, (x.add (k * 2)).off + 1, none⟩ = some (.int .i64 l[k].2) := by
  rcases h with rfl | ⟨x, hx, h⟩
  · simp at hk
  · exact ⟨x, hx, h k l[k] (List.getElem?_eq_getElem hk)⟩
def AS : ByteArray := { data := #[65] }
/-- A request of the queue. -/
def rqVal (k : Nat) (t : ByteArray) : Value := .agg #[.int .i64 (k + 1), .string t, .string AS, .int .i64 0, .int .i64 1, .int .i64 k, .int .i64 1099511627776]
structure RqAt (w : World) (x : Addr) (k : Nat) (t : ByteArray) : Prop where
  c0 : w.cell? x = some (.int .i64 (k + 1))
  c1 : w.cell? ⟨x.block, x.off + 1, none⟩ = some (.string t)
  c2 : w.cell? ⟨x.block, x.off + 2, none⟩ = some (.string AS)
  c3 : w.cell? ⟨x.block, x.off + 3, none⟩ = some (.int .i64 0)
  c4 : w.cell? ⟨x.block, x.off + 4, none⟩ = some (.int .i64 1)
  c5 : w.cell? ⟨x.block, x.off + 5, none⟩ = some (.int .i64 k)
  c6 : w.cell? ⟨x.block, x.off + 6, none⟩ = some (.int .i64 1099511627776)
theorem RqAt.below {w w' : World} {x : Addr} {k : Nat} {t : ByteArray} (h : RqAt w x k t) (hb : Below w.heap.size w w') : RqAt w' x k t := by
  obtain ⟨h0, h1, h2, h3, h4, h5, h6⟩ := h
  have e : ∀ o, w.cell? ⟨x.block, o, none⟩ ≠ none → w'.cell? ⟨x.block, o, none⟩ = w.cell? ⟨x.block, o, none⟩ := fun o ho => by
    cases hc : w.cell? ⟨x.block, o, none⟩ with
    | none => exact absurd hc ho
    | some v => rw [hb.cell (World.block_lt_of_cell? _ _ hc), hc]
  exact ⟨by rw [hb.cell (World.block_lt_of_cell? _ _ h0)]; exact h0, by rw [e _ (by rw [h1]; simp)]; exact h1, by rw [e _ (by rw [h2]; simp)]; exact h2, by rw [e _ (by rw [h3]; simp)]; exact h3, by rw [e _ (by rw [h4]; simp)]; exact h4, by rw [e _ (by rw [h5]; simp)]; exact h5, by rw [e _ (by rw [h6]; simp)]; exact h6⟩
def Rqs (w : World) (a : Option Addr) (ts : List ByteArray) : Prop := ts = [] ∨ ∃ x, a = some x ∧ ∀ (k : Nat) (t : ByteArray), ts[k]? = some t → RqAt w (x.add (k * 7)) k t
theorem Rqs.below {w w' : World} {a : Option Addr} {ts : List ByteArray} (h : Rqs w a ts) (hb : Below w.heap.size w w') : Rqs w' a ts := by
  rcases h with h | ⟨x, hx, h⟩
  · exact .inl h
  · exact .inr ⟨x, hx, fun k t hk => (h k t hk).below hb⟩
theorem Rqs.at {w : World} {a : Option Addr} {ts : List ByteArray} (h : Rqs w a ts) {k : Nat} (hk : k < ts.length) : ∃ x, a = some x ∧ RqAt w (x.add (k * 7)) k ts[k] := by
  rcases h with rfl | ⟨x, hx, h⟩
  · simp at hk
  · exact ⟨x, hx, h k ts[k] (List.getElem?_eq_getElem hk)⟩
theorem eq_str {s t : ByteArray} (h : s = t) : (s.toList == t.toList) = true := by subst h; simp
theorem ne_str {s t : ByteArray} (h : s ≠ t) : (s.toList == t.toList) = false := by
  rw [ByteArray.toList_eq, ByteArray.toList_eq]
  exact beq_eq_false_iff_ne.2 fun e => h (Go.WideShapes.bytes_inj e)
set_option maxRecDepth 100000 in
set_option maxHeartbeats 4000000 in
theorem weight_any (l : Shares) (a : Option Addr) (c : Nat) (p : Nat) (cs : List Int) (Q : Int) (w : World) (hx : Shs w a l) (hc : l.length ≤ c) (hl : l.length ≤ 1000000) (hp : p ≤ l.length) :
    Calls Try.prog 36 #[.slice a l.length c, .int .i64 p] w fun e w' => e = .returned (.int .i64 ((cfgOf l cs Q).wt p)) ∧ w' = w := by
  by_cases h : p = l.length
  · subst h
    rw [wt_last]
    go_enter Try.func36, Try.ntmps36
    go_wp2
    go_ret
    exact ⟨rfl, rfl⟩
  · have hlt : p < l.length := by omega
    rw [wt_at l cs Q hlt]
    obtain ⟨x, rfl, h1, h2⟩ := hx.at hlt
    generalize l[p] = s at *
    have q1 : ((p : Int) == (l.length : Int)) = false := by rw [beq_eq_false_iff_ne]; omega
    have q2 : decide ((p : Int) < (l.length : Int)) = true := decide_eq_true (by omega)
    go_enter Try.func36, Try.ntmps36
    go_wp2
    go_ret
    exact ⟨rfl, rfl⟩
set_option maxRecDepth 100000 in
set_option maxHeartbeats 4000000 in
theorem rweight_any (l : Shares) (a : Option Addr) (c : Nat) (p : Nat) (cs : List Int) (Q : Int) (w : World) (hx : Shs w a l) (hc : l.length ≤ c) (hl : l.length ≤ 1000000) (hp : p ≤ l.length) :
    Calls Try.prog 38 #[.slice a l.length c, .int .i64 p] w fun e w' => e = .returned (.int .i64 ((cfgOf l cs Q).wt p)) ∧ w' = w := by
  by_cases h : p = l.length
  · subst h
    rw [wt_last]
    go_enter Try.func38, Try.ntmps38
    go_wp2
    go_ret
    exact ⟨rfl, rfl⟩
  · have hlt : p < l.length := by omega
    rw [wt_at l cs Q hlt]
    obtain ⟨x, rfl, h1, h2⟩ := hx.at hlt
    generalize l[p] = s at *
    have q1 : ((p : Int) == (l.length : Int)) = false := by rw [beq_eq_false_iff_ne]; omega
    have q2 : decide ((p : Int) < (l.length : Int)) = true := decide_eq_true (by omega)
    go_enter Try.func38, Try.ntmps38
    go_wp2
    go_ret
    exact ⟨rfl, rfl⟩
set_option maxRecDepth 100000 in
set_option maxHeartbeats 4000000 in
theorem rparty_any (l : Shares) (a : Option Addr) (c : Nat) (t : ByteArray) (w : World) (hx : Shs w a l) (hc : l.length ≤ c) (hl : l.length ≤ 1000000) :
    Calls Try.prog 46 #[.slice a l.length c, .string t] w fun e w' => e = .returned (.int .i64 (partyOf l t)) ∧ w' = w := by
  go_enter Try.func46, Try.ntmps46
  go_wp2
  go_loopw [5] (fun i wr => ∃ k : Nat, i = .int .i64 k ∧ k ≤ l.length ∧ Hid (∀ j (h : j < k) (h2 : j < l.length), l[j].1 ≠ t) ∧ wr = w) (fun i _ => l.length - (intOf i).toNat)
  case atStart => exact ⟨0, rfl, by omega, Lib.hid fun j h => absurd h (by omega), rfl⟩
  case round =>
    obtain ⟨k, rfl, hk, HQ, rfl⟩ := hrel
    by_cases h : k < l.length
    · obtain ⟨x, rfl, hcell, _⟩ := hx.at h
      by_cases he : l[k].1 = t
      · have HV := Lib.hid (party_at h HQ.out he)
        rw [he] at hcell
        have hq := eq_str (rfl : t = t)
        clear he
        go_wp2
        go_ret
        exact ⟨by rw [HV.out]; rfl, rfl⟩
      · have HE := Lib.hid he
        have hes := ne_str he
        generalize hs : l[k].1 = s at *
        clear he
        go_wp2
        go_roundw
        case rel => exact ⟨k + 1, by go_num, by omega, Lib.hid fun j h1 h2 => by
            by_cases hj : j = k
            · subst hj; rw [hs]; exact HE.out
            · exact HQ.out j (by omega) h2, trivial⟩
        case measure => simp [intOf]; omega
    · have HV := Lib.hid (party_none fun j hj => HQ.out j (by omega) hj)
      go_wp2
      go_ret
      exact ⟨by rw [HV.out]; rfl, rfl⟩
set_option maxRecDepth 100000 in
set_option maxHeartbeats 4000000 in
theorem party1_any (B : Nat) (s : ByteArray × Int) (t : ByteArray) (w : World) (hB : w.cell? ⟨B, 1, none⟩ = some (.string t)) :
    Calls Try.prog 48 #[.agg #[.string s.1, .int .i64 s.2], .pointer (some ⟨B, 0, none⟩)] w fun e w' => e = .returned (.bool (decide (s.1 = t))) ∧ Below w.heap.size w w' := by
  have hB1 : (w.alloc (.cells #[.string s.1, .int .i64 s.2] 56)).cell? ⟨B, 1, none⟩ = some (.string t) := by
    rw [(below_alloc (Below.refl w.heap.size w) _).cell (World.block_lt_of_cell? _ _ hB)]; exact hB
  have HL := Lib.hid (below_alloc (Below.refl w.heap.size w) (.cells #[.string s.1, .int .i64 s.2] 56))
  obtain ⟨s, n⟩ := s
  simp only at *
  by_cases h : s = t
  · have q := eq_str h
    rw [decide_eq_true h]
    clear h hB
    go_enter Try.func48, Try.ntmps48
    go_wp2
    go_ret
    exact ⟨rfl, HL.out⟩
  · have q := ne_str h
    rw [decide_eq_false h]
    clear h hB
    go_enter Try.func48, Try.ntmps48
    go_wp2
    go_ret
    exact ⟨rfl, HL.out⟩
def idx47 (l : Shares) (t : ByteArray) : Int := if partyOf l t < l.length then (partyOf l t : Int) else -1
set_option maxRecDepth 100000 in
set_option maxHeartbeats 4000000 in
theorem index47_any (l : Shares) (a : Option Addr) (c : Nat) (B : Nat) (t : ByteArray) (w : World) (hx : Shs w a l) (hc : l.length ≤ c) (hl : l.length ≤ 1000000) (hB : w.cell? ⟨B, 1, none⟩ = some (.string t)) :
    Calls Try.prog 47 #[.slice a l.length c, .func (.func 48) #[] #[.pointer (some ⟨B, 0, none⟩)]] w fun e w' => e = .returned (.int .i64 (idx47 l t)) ∧ Below w.heap.size w w' := by
  go_enter Try.func47, Try.ntmps47
  go_wp2
  go_loopw [8] (fun i wr => ∃ k : Nat, i = .int .i64 k ∧ k ≤ l.length ∧ Hid (∀ j (h : j < k) (h2 : j < l.length), l[j].1 ≠ t) ∧ Hid (Below w.heap.size w wr)) (fun i _ => l.length - (intOf i).toNat)
  case atStart => exact ⟨0, rfl, by omega, Lib.hid fun j h => absurd h (by omega), Lib.hid (Below.refl _ _)⟩
  case round =>
    obtain ⟨k, rfl, hk, HQ, HW⟩ := hrel
    by_cases h : k < l.length
    · obtain ⟨x, rfl, h1, h2⟩ := (hx.below HW.out).at h
      have P := party1_any B l[k] t wr (by rw [HW.out.cell (World.block_lt_of_cell? _ _ hB)]; exact hB)
      by_cases he : l[k].1 = t
      · have HV := Lib.hid (party_at h HQ.out he)
        rw [decide_eq_true he] at P
        generalize l[k] = s at *
        have HP := Lib.hid P
        clear he P
        go_wp2_with fail
        refine HP.out.mono ?_
        rintro e w1 ⟨rfl, hb1⟩
        have HB := Lib.hid (Below.next HW.out hb1)
        clear hb1
        go_wp2
        go_ret
        exact ⟨by rw [idx47, HV.out, if_pos h]; rfl, HB.out⟩
      · have HE := Lib.hid he
        rw [decide_eq_false he] at P
        generalize hs : l[k] = s at *
        have HP := Lib.hid P
        clear he P
        go_wp2_with fail
        refine HP.out.mono ?_
        rintro e w1 ⟨rfl, hb1⟩
        have HB := Lib.hid (Below.next HW.out hb1)
        clear hb1
        go_wp2
        go_roundw
        case rel => exact ⟨k + 1, by go_num, by omega, Lib.hid fun j h1 h2 => by
            by_cases hj : j = k
            · subst hj; rw [hs]; exact HE.out
            · exact HQ.out j (by omega) h2, HB⟩
        case measure => simp [intOf]; omega
    · have HV := Lib.hid (party_none fun j hj => HQ.out j (by omega) hj)
      go_wp2
      go_ret
      exact ⟨by rw [idx47, HV.out, if_neg (by omega)]; rfl, HW.out⟩
set_option maxRecDepth 100000 in
set_option maxHeartbeats 4000000 in
theorem party_any (l : Shares) (a : Option Addr) (c : Nat) (k : Nat) (t : ByteArray) (w : World) (hx : Shs w a l) (hc : l.length ≤ c) (hl : l.length ≤ 1000000) :
    Calls Try.prog 44 #[.slice a l.length c, rqVal k t] w fun e w' => e = .returned (.int .i64 (partyOf l t)) ∧ Below w.heap.size w w' := by
  have hmf : ∀ (fn : Fn) (first cap : Array Value) (w : World), (Instr.makeFunc fn first cap).run Try.prog w = .ok (.func fn first cap) w := fun _ _ _ _ => rfl
  have hb1 := below_alloc (Below.refl w.heap.size w) (.cells #[.int .i64 (k + 1), .string t, .string AS, .int .i64 0, .int .i64 1, .int .i64 k, .int .i64 1099511627776] 54)
  have X := Lib.hid (index47_any l a c w.heap.size t _ (hx.below hb1) hc hl (by rw [World.cell?_alloc_mark]; rfl))
  have HB := Lib.hid hb1
  have hle := partyOf_le l t
  clear hb1 hx
  unfold rqVal
  go_enter Try.func44, Try.ntmps44
  go_wp2_with fail
  refine X.out.mono ?_
  rintro e w1 ⟨rfl, hb1⟩
  have H2 := Lib.hid (Below.next HB.out hb1)
  clear hb1
  by_cases h : partyOf l t < l.length
  · rw [idx47, if_pos h]
    have q1 : decide ((partyOf l t : Int) < 0) = false := decide_eq_false (by omega)
    clear h hle
    go_wp2
    go_ret
    exact ⟨rfl, H2.out⟩
  · rw [idx47, if_neg h]
    have e : partyOf l t = l.length := by omega
    have HE := Lib.hid e
    clear h hle e
    go_wp2
    go_ret
    exact ⟨by rw [HE.out]; rfl, H2.out⟩
end Go.Proofs.Ytdfnpknekjgkiaa
