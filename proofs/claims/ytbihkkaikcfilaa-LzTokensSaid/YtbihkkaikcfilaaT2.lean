/- The reference's Form: the tokens' form. -/
import Derived.Test.YtbihkkaikcfilaaT1
namespace Go.Proofs.Ytbihkkaikcfilaa
open Go.RowKit
set_option linter.unusedVariables false
set_option linter.unusedSimpArgs false

/-- A token in memory. -/
structure TokAt (w : World) (x : Addr) (t : Tk) (a : Option Addr) (c : Nat) : Prop where
  c0 : w.cell? x = some (.slice a t.lit.length c)
  c1 : w.cell? ⟨x.block, x.off + 1, none⟩ = some (.int .i64 t.cnt)
  c2 : w.cell? ⟨x.block, x.off + 2, none⟩ = some (.int .i64 t.dist)
  ints : Ints .u8 w a t.lit
  lec : t.lit.length ≤ c
  nil : a = none → c = 0
  all : AllB t.lit
  most : c ≤ maxLen
  r1 : -9223372036854775808 ≤ t.cnt ∧ t.cnt ≤ 9223372036854775807
  r2 : -9223372036854775808 ≤ t.dist ∧ t.dist ≤ 9223372036854775807
def Toks (w : World) (a : Option Addr) (l : List Tk) : Prop := l = [] ∨ ∃ x, a = some x ∧ ∀ (k : Nat) (t : Tk), l[k]? = some t → ∃ b c, TokAt w (x.add (k * 3)) t b c
theorem TokAt.below {w w' : World} {x : Addr} {t : Tk} {a : Option Addr} {c : Nat} (h : TokAt w x t a c) (hb : Below w.heap.size w w') : TokAt w' x t a c := by
  refine ⟨?_, ?_, ?_, h.ints.below hb, h.lec, h.nil, h.all, h.most, h.r1, h.r2⟩
  · rw [hb.cell (World.block_lt_of_cell? _ _ h.c0)]; exact h.c0
  · rw [hb.cell (World.block_lt_of_cell? _ _ h.c1)]; exact h.c1
  · rw [hb.cell (World.block_lt_of_cell? _ _ h.c2)]; exact h.c2
theorem Toks.below {w w' : World} {a : Option Addr} {l : List Tk} (h : Toks w a l) (hb : Below w.heap.size w w') : Toks w' a l := by
  rcases h with h | ⟨x, hx, h⟩
  · exact .inl h
  · exact .inr ⟨x, hx, fun k t hk => by obtain ⟨b, c, h⟩ := h k t hk; exact ⟨b, c, h.below hb⟩⟩
theorem Toks.at {w : World} {a : Option Addr} {l : List Tk} (h : Toks w a l) {k : Nat} (hk : k < l.length) : ∃ x b c, a = some x ∧ TokAt w (x.add (k * 3)) l[k] b c := by
  rcases h with rfl | ⟨x, hx, h⟩
  · simp at hk
  · obtain ⟨b, c, h⟩ := h k l[k] (List.getElem?_eq_getElem hk)
    exact ⟨x, b, c, hx, h⟩
theorem form_take {l : List Tk} {k : Nat} (h : k < l.length) : formL (l.take (k + 1)) = formL (l.take k) ++ formT l[k] := by rw [List.take_succ_eq_append_getElem h, form_snoc]

theorem okL_at (l : List Tk) : ∀ (out : List Int) (k : Nat) (h : k < l.length), okL out l → okT (wantL out (l.take k)) l[k] := by
  induction l with
  | nil => intro out k h; simp at h
  | cons t r ih =>
    intro out k h ho
    cases k with
    | zero => exact ho.1
    | succ k => exact ih (stepT out t) k (by simpa using h) ho.2
theorem okL_take (l : List Tk) : ∀ (out : List Int) (k : Nat), okL out l → okL out (l.take k) := by
  induction l with
  | nil => intro out k ho; simpa using ho
  | cons t r ih =>
    intro out k ho
    cases k with
    | zero => exact trivial
    | succ k => exact ⟨ho.1, ih _ k ho.2⟩

structure FInv (w : World) (l : List Tk) (k : Nat) (out : Value) (wr : World) : Prop where
  own : wr.ownsRow w.heap.size 5 1 out (formL (l.take k)).length ((formL (l.take k)).map (Value.int .u8))
  low : Below w.heap.size w wr
set_option maxRecDepth 100000 in
set_option maxHeartbeats 8000000 in
theorem form_any (a : Option Addr) (c : Nat) (l : List Tk) (w : World) (hx : Toks w a l) (hc : l.length ≤ c) (hl : l.length ≤ 200) (ho : okL [] l) :
    Calls Try.prog 13 #[.slice a l.length c] w fun e w' => ∃ r, e = .returned r ∧ w'.ownsRow w.heap.size 5 1 r (formL l).length ((formL l).map (Value.int .u8)) ∧ Below w.heap.size w w' := by
  have HS : Hid (FInv w l 0 (.slice (some ⟨w.heap.size, 0, none⟩) 0 0) (w.alloc (.cells #[] 5))) := ⟨World.ownsRow_lit (base := w.heap.size) (e := 5) (size := 1) w #[] 0 (Nat.le_refl _) (by unfold maxLen; omega) rfl, (Below.refl _ _).alloc (Nat.le_refl _) _⟩
  go_enter Try.func13, Try.ntmps13
  go_wp2
  go_loopw [3, 4] (fun out i wr => ∃ k : Nat, i = .int .i64 k ∧ k ≤ l.length ∧ FInv w l k out wr) (fun _ i _ => l.length - (intOf i).toNat)
  case atStart => exact ⟨0, rfl, Nat.zero_le _, HS.out⟩
  case round =>
    obtain ⟨k, rfl, hk, hown, hlow⟩ := hrel
    clear HS
    by_cases h : k < l.length
    · obtain ⟨x, b, cb, rfl, ht⟩ := (hx.below hlow).at h
      have hf := form_take h
      have hok := okL_at l [] k h ho
      have hfl := formL_len _ _ (okL_take l [] k ho)
      rw [List.length_take] at hfl
      obtain ⟨i5, hi5, hy0, hy1, hy2⟩ := info_parts info5
      obtain ⟨hc0, hc1, hc2, hi, hlec, hnil, hall, hmost, hr1, hr2⟩ := ht
      have hfl : (formL (l.take k)).length ≤ 820000 := by omega
      generalize l[k] = t at *
      obtain ⟨hk1, hk2, hk3⟩ := hok
      obtain ⟨ao, co, rfl, hio⟩ := ints_own hown
      have hoc := own_cap hown
      have hon := own_nil hown
      rw [formT] at hf
      generalize formL (l.take k) = o at *
      obtain ⟨W1, hW⟩ : ∃ W1, W1 = wr.alloc (.cells #[.slice b t.lit.length cb, .int .i64 t.cnt, .int .i64 t.dist] 32) := ⟨_, rfl⟩
      have e0 : W1.cell? ⟨wr.heap.size, 0, none⟩ = some (.slice b t.lit.length cb) := by rw [hW, World.cell?_alloc_mark]; rfl
      have e1 : W1.cell? ⟨wr.heap.size, 1, none⟩ = some (.int .i64 t.cnt) := by rw [hW, World.cell?_alloc_mark]; rfl
      have e2 : W1.cell? ⟨wr.heap.size, 2, none⟩ = some (.int .i64 t.dist) := by rw [hW, World.cell?_alloc_mark]; rfl
      have hlt1 : wr.heap.size < W1.heap.size := by rw [hW]; simp
      have hlow1 : Below w.heap.size w W1 := by rw [hW]; exact below_alloc hlow _
      have hio1 : Ints .u8 W1 ao o := by rw [hW]; exact hio.below (below_alloc (Below.refl _ _) _)
      have hi1 : Ints .u8 W1 b t.lit := by rw [hW]; exact hi.below (below_alloc (Below.refl _ _) _)
      have hle1 : w.heap.size ≤ W1.heap.size := hlow1.size
      clear hio hi hown
      by_cases hn : 0 < t.lit.length
      · rw [if_pos hn] at hf
        have HF := Lib.hid hf
        have hl3 := putN_len (2 * t.lit.length) (by omega)
        have I1 : ∀ wx, Below W1.heap.size W1 wx → Calls Try.prog 19 #[.slice ao o.length co, .int .u64 (2 * (t.lit.length : Int))] wx fun e w' => ∃ r, e = .returned r ∧ w'.ownsRow W1.heap.size 5 1 r (o ++ putN (2 * t.lit.length)).length ((o ++ putN (2 * t.lit.length)).map (Value.int .u8)) ∧ Below W1.heap.size W1 w' ∧ w'.cell? ⟨wr.heap.size, 0, none⟩ = some (.slice b t.lit.length cb) := fun wx hb => by
          have := rput_any (2 * t.lit.length) ao co o wx (hio1.below hb) hoc hon (by omega) (by omega)
          rw [show ((2 * t.lit.length : Nat) : Int) = 2 * (t.lit.length : Int) from by omega] at this
          exact this.mono fun e w' ⟨r, h1, h2, h3⟩ => ⟨r, h1, ownsRow_mono h2 hb.size, Below.next hb h3, by rw [(Below.next hb h3).cell hlt1]; exact e0⟩
        have NW : Hid (∀ wx, Below W1.heap.size W1 wx → Ints .u8 wx b t.lit) := Lib.hid fun wx hb => hi1.below hb
        obtain ⟨ad, rfl, _⟩ := hi1.at (i := 0) hn
        have I1 := Lib.hid I1
        have HN := Lib.hid (And.intro hr1 hr2)
        have hll : (o ++ putN (2 * t.lit.length)).length ≤ 900000 := by rw [List.length_append]; omega
        rw [← List.append_assoc] at HF
        generalize o ++ putN (2 * t.lit.length) = o2 at *
        generalize hq : t.lit.length = n at *
        have HQ := Lib.hid hq
        have m1 : IntKind.i64.wrap (2 * (n : Int)) = 2 * (n : Int) := IntWalk.i64_in _ (by omega)
        have m2 : IntKind.u64.wrap (2 * (n : Int)) = 2 * (n : Int) := IntWalk.u64_in _ (by omega)
        clear hf hi1 hio1 hk3 hr1 hr2 hq e1 e2
        go_wp2
        rw [← hW]
        have HW := Lib.hid hW
        clear hW hc0 hc1 hc2
        have K : ∀ wx, Below W1.heap.size W1 wx → Below W1.heap.size W1 wx ∧ wx.cell? ⟨wr.heap.size, 0, none⟩ = some (.slice (some ad) n cb) := fun wx hb => ⟨hb, by rw [hb.cell hlt1]; exact e0⟩
        have S0 := K W1.drew (Below.refl _ _).drew
        have KK := Lib.hid K
        clear K e0
        go_region_held3 (fun wx => Below W1.heap.size W1 wx ∧ wx.cell? ⟨wr.heap.size, 0, none⟩ = some (.slice (some ad) n cb)) (with_reducible first | assumption | exact S0 | exact KK.out _ (by assumption)) (first | (go_at_call 19; (with_reducible refine (I1.out _ ?_).mono ?_); (go_split_ands; with_reducible assumption); rintro e w2 ⟨v2, rfl, hown2, hb2, hc2⟩) | (refine step_append_lies _ (by rfl) _ _ _ (by rfl) W1.heap.size 5 i5 _ 1 1 Try.underlying22 hi5 hy0 hy1 hy2 rfl (by omega) v2 o2.length (o2.map (Value.int .u8)) (by rfl) hown2 ad n cb (t.lit.map (Value.int .u8)) (by rfl) (by simp [HQ.out]) (vals_some (NW.out _ hb2).vals) (ints_oneCell _ _) (by omega) (by unfold maxLen; omega) (by omega) (by have := hb2.size; omega) w2.heap.size (by rfl) ?_; intro gg cap w3 hown3 hgrow3 hat3 hlt3; have hb3 := below_app hb2 hgrow3 hown2))
        have HO3 : Hid (w3.ownsRow w.heap.size 5 1 (.slice (some ⟨gg, 0, none⟩) (o2.length + n) cap) (o2 ++ t.lit).length ((o2 ++ t.lit).map (Value.int .u8))) := by
          have e : (o2 ++ t.lit).length = o2.length + n := by rw [List.length_append, HQ.out]
          rw [e, List.map_append]; exact ownsRow_mono hown3 hle1
        have hlow3 := Below.next hlow1 hb3
        clear hown3 hgrow3 hown2
        go_wp2
        go_roundw
        case rel => exact ⟨k + 1, by go_num, by omega, by rw [HF.out]; exact HO3.out, hlow3⟩
        case measure => simp [intOf]; omega
      · rw [if_neg hn] at hf
        obtain ⟨c1, c2, c3, c4⟩ := hk3 (by omega)
        have HN := Lib.hid (And.intro hr1 hr2)
        clear hk3 hr1 hr2 hk1
        generalize hcn : t.cnt = tc at *
        generalize hdn : t.dist = td at *
        obtain ⟨n, rfl⟩ := Int.eq_ofNat_of_zero_le (show 0 ≤ tc by omega)
        obtain ⟨d, rfl⟩ := Int.eq_ofNat_of_zero_le (show 0 ≤ td by omega)
        rw [show (2 * (n : Int) + 1).toNat = 2 * n + 1 from by omega, Int.toNat_natCast] at hf
        have c5 : n ≤ 4096 := by omega
        have c6 : d ≤ 70000 := by omega
        have HF := Lib.hid hf
        have hl3 := putN_len (2 * n + 1) (by omega)
        have I1 : ∀ wx, Below W1.heap.size W1 wx → Calls Try.prog 19 #[.slice ao o.length co, .int .u64 (2 * (n : Int) + 1)] wx fun e w' => ∃ r, e = .returned r ∧ w'.ownsRow W1.heap.size 5 1 r (o ++ putN (2 * n + 1)).length ((o ++ putN (2 * n + 1)).map (Value.int .u8)) ∧ Below W1.heap.size W1 w' := fun wx hb => by
          have := rput_any (2 * n + 1) ao co o wx (hio1.below hb) hoc hon (by omega) (by omega)
          rw [show ((2 * n + 1 : Nat) : Int) = 2 * (n : Int) + 1 from by omega] at this
          exact this.mono fun e w' ⟨r, h1, h2, h3⟩ => ⟨r, h1, ownsRow_mono h2 hb.size, Below.next hb h3⟩
        have hll : (o ++ putN (2 * n + 1)).length ≤ 900000 := by rw [List.length_append]; omega
        rw [← List.append_assoc] at HF
        generalize o ++ putN (2 * n + 1) = o2 at *
        have I2 : ∀ wx r, Below W1.heap.size W1 wx → wx.ownsRow W1.heap.size 5 1 r o2.length (o2.map (Value.int .u8)) → Calls Try.prog 19 #[r, .int .u64 (d : Int)] wx fun e w' => ∃ r, e = .returned r ∧ w'.ownsRow W1.heap.size 5 1 r (o2 ++ putN d).length ((o2 ++ putN d).map (Value.int .u8)) ∧ Below W1.heap.size W1 w' := fun wx r hb ho => by
          obtain ⟨ao, co, rfl, hio⟩ := ints_own ho
          have := rput_any d ao co o2 wx hio (own_cap ho) (own_nil ho) (by omega) (by omega)
          exact this.mono fun e w' ⟨r, h1, h2, h3⟩ => ⟨r, h1, ownsRow_mono h2 hb.size, Below.next hb h3⟩
        have I1 := Lib.hid I1
        have I2 := Lib.hid I2
        have m1 : IntKind.i64.wrap (2 * (n : Int)) = 2 * (n : Int) := IntWalk.i64_in _ (by omega)
        have m2 : IntKind.i64.wrap (2 * (n : Int) + 1) = 2 * (n : Int) + 1 := IntWalk.i64_in _ (by omega)
        have m3 : IntKind.u64.wrap (2 * (n : Int) + 1) = 2 * (n : Int) + 1 := IntWalk.u64_in _ (by omega)
        have m4 : IntKind.u64.wrap (d : Int) = (d : Int) := IntWalk.u64_in _ (by omega)
        clear hf hi1 hio1 hcn hdn e0
        go_wp2
        rw [← hW]
        have HW := Lib.hid hW
        clear hW hc0 hc1 hc2
        have K : ∀ wx, Below W1.heap.size W1 wx → Below W1.heap.size W1 wx ∧ wx.cell? ⟨wr.heap.size, 1, none⟩ = some (.int .i64 (n : Int)) ∧ wx.cell? ⟨wr.heap.size, 2, none⟩ = some (.int .i64 (d : Int)) := fun wx hb => ⟨hb, by rw [hb.cell hlt1]; exact e1, by rw [hb.cell hlt1]; exact e2⟩
        have S0 := K W1.drew (Below.refl _ _).drew
        have KK := Lib.hid K
        clear K e1 e2
        go_region_held3 (fun wx => Below W1.heap.size W1 wx ∧ wx.cell? ⟨wr.heap.size, 1, none⟩ = some (.int .i64 (n : Int)) ∧ wx.cell? ⟨wr.heap.size, 2, none⟩ = some (.int .i64 (d : Int))) (with_reducible first | assumption | exact S0 | exact KK.out _ (by assumption)) (first | (go_at_call 19; (with_reducible refine (I1.out _ ?_).mono ?_); (go_split_ands; with_reducible assumption); rintro e w2 ⟨v2, rfl, hown2, hb2⟩) | (go_at_call 19; (with_reducible refine (I2.out _ _ hb2 hown2).mono ?_); rintro e w3 ⟨v3, rfl, hown3, hb3⟩))
        have HO3 : Hid (w3.ownsRow w.heap.size 5 1 v3 (o2 ++ putN d).length ((o2 ++ putN d).map (Value.int .u8))) := Lib.hid (ownsRow_mono hown3 hle1)
        have hlow3 := Below.next hlow1 hb3
        clear hown3 hown2
        go_wp2
        go_roundw
        case rel => exact ⟨k + 1, by go_num, by omega, by rw [HF.out]; exact HO3.out, hlow3⟩
        case measure => simp [intOf]; omega
    · obtain rfl : k = l.length := by omega
      rw [List.take_length] at hown
      have HO := Lib.hid hown
      clear hown
      go_wp2
      go_ret
      exact ⟨_, rfl, HO.out, hlow⟩
end Go.Proofs.Ytbihkkaikcfilaa
