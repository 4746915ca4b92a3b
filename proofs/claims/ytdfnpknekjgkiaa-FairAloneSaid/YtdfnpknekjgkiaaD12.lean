/- Order. -/
import Derived.Test.YtdfnpknekjgkiaaD11
import Derived.Test.YtdfnpknekjgkiaaD8
namespace Go.Proofs.Ytdfnpknekjgkiaa
open Go.RowKit
set_option linter.unusedVariables false
set_option linter.unusedSimpArgs false

/-- The error of Order's arguments. -/
def errOf (l : Shares) (n : Nat) (cs : List Int) (Q : Int) : Int := if ckOf l ≠ 0 then ckOf l else ckArg n cs Q
theorem errOf_good {l : Shares} {ts : List ByteArray} {cs : List Int} {Q : Int} (h : errOf l ts.length cs Q = 0) : Good l ts cs Q ∧ l.length ≤ 64 ∧ ts.length ≤ 64 := by
  unfold errOf at h
  by_cases h1 : ckOf l ≠ 0
  · rw [if_pos h1] at h; exact absurd h h1
  rw [if_neg h1] at h
  have h1 : ckOf l = 0 := by simpa using h1
  unfold ckArg at h
  by_cases h2 : ts.length > 64
  · rw [if_pos h2] at h; cases h
  rw [if_neg h2] at h
  by_cases h3 : cs.length ≠ ts.length
  · rw [if_pos h3] at h; cases h
  rw [if_neg h3] at h
  by_cases h4 : (1 ≤ Q ∧ Q ≤ 1000000) ∧ badIn 1000000 cs = false
  · exact ⟨⟨h4.1, by omega, badIn_false h4.2, ckOf_w h1⟩, ckOf_len h1, by omega⟩
  · rw [if_neg h4] at h; cases h
theorem start_ok (n : Nat) : stOk n (List.replicate (n + 1) 0) n := by
  refine ⟨by omega, by simp, badIn_none fun j hj => ?_⟩
  simp
theorem ex_start (l : Shares) (n : Nat) (cs : List Int) (Q : Int) : exOf l.length (List.replicate (l.length + 1) 0) l n cs Q = errOf l n cs Q := by
  unfold exOf errOf
  by_cases h1 : ckOf l ≠ 0
  · rw [if_pos h1, if_pos h1]
  · rw [if_neg h1, if_neg h1, if_neg (fun h => h (start_ok _))]
def nInts (xs : List Nat) : List Value := xs.map (fun j => .int .i64 (j : Nat))
/-- What Order returns. -/
def OrderR (l : Shares) (ts : List ByteArray) (cs : List Int) (Q : Int) (w : World) (e : Ending) (w' : World) : Prop :=
  (if errOf l ts.length cs Q = 0 then ∃ v, e = .returned (.tuple #[v, .int .i64 0]) ∧ w'.ownsRow w.heap.size 3 1 v (orderOf l ts cs Q).length (nInts (orderOf l ts cs Q))
   else e = .returned (.tuple #[.slice none 0 0, .int .i64 (errOf l ts.length cs Q)])) ∧ Below w.heap.size w w'
theorem own_ne {W : World} {base n size B : Nat} {e t : TypeId} {v : Value} {xs : List Value} {cs : Array Value} {fr : Nat × Nat} (h : W.ownsRow base e size v n xs) (hb : W.heap[B]? = some (.cells cs t fr)) (hne : t ≠ e) : v.ownBlock ≠ some B := by
  rcases h.2 with ⟨rfl, _⟩ | ⟨g, c, cur, rfl, _, h1, _⟩
  · simp [Value.ownBlock]
  · intro hB
    simp [Value.ownBlock] at hB
    subst hB
    rw [h1] at hb
    injection hb with hb; injection hb with _ hb
    exact hne hb.symm
theorem Row.heap {α : Type} {t : TypeId} {f : α → Value} {W : World} {base g cap : Nat} {xs : List α} (h : Row t f W base g cap xs) : ∃ cur, W.heap[g]? = some (.cells cur t (0, 0)) := by
  rcases h.2 with ⟨h1, _⟩ | ⟨g', c', cur, h1, h2, h3, _⟩
  · injection h1 with h1; cases h1
  · injection h1 with h1; injection h1 with h1; injection h1 with h1; subst h1
    exact ⟨cur, h3⟩
theorem Row.ne {α : Type} {t t' : TypeId} {f : α → Value} {W : World} {base g cap B : Nat} {xs : List α} {cs : Array Value} (h : Row t f W base g cap xs) (hb : Blk W B t' cs) (hne : t' ≠ t) : g ≠ B := by
  rintro rfl
  obtain ⟨cur, hc⟩ := h.heap
  rw [show W.heap[g]? = _ from hb] at hc
  injection hc with hc; injection hc with _ hc
  exact hne hc
theorem Row.kept {α : Type} {t : TypeId} {f : α → Value} {W W' : World} {base g cap : Nat} {xs : List α} {row : Option Nat} (h : Row t f W base g cap xs) (hg : W.grownBy W' row) (hne : row ≠ some g) : Row t f W' base g cap xs := by
  refine ⟨h.1, ?_⟩
  rcases h.2 with h2 | ⟨g', c', cur, h1, h2, h3, h4⟩
  · exact .inl h2
  · refine .inr ⟨g', c', cur, h1, h2, ?_, h4⟩
    have hb := (Array.getElem?_eq_some_iff.1 h3).1
    injection h1 with h1; injection h1 with h1; injection h1 with h1; subst h1
    rw [hg.block _ hb (Ne.symm hne)]; exact h3
/-- The memory while Order goes on. -/
structure OrM (T : Nat) (w : World) (B gd cd : Nat) (o : Ord) (v : Value) (wr : World) : Prop where
  ex : ∃ gc cc, Blk wr B T #[.int .i64 o.s.1, .slice (some ⟨gc, 0, none⟩) o.s.2.length cc] ∧ Ints .i64 wr (some ⟨gc, 0, none⟩) o.s.2 ∧ o.s.2.length ≤ cc
  dn : RowB wr w.heap.size gd cd o.done
  out : wr.ownsRow w.heap.size 3 1 v o.out.length (nInts o.out)
  lb : w.heap.size ≤ B
  low : Below w.heap.size w wr
theorem vals_nints {w : World} {base n : Nat} {v : Value} {xs : List Nat} (h : w.ownsRow base 3 1 v n (nInts xs)) : ∃ a c, v = .slice a xs.length c ∧ Vals w a (nInts xs) ∧ xs.length ≤ c ∧ (a = none → c = 0) ∧ n = xs.length := by
  obtain ⟨a, c, hv, hr⟩ := vals_own h
  have hl : (nInts xs).length = xs.length := by simp [nInts]
  rw [hl] at hv
  subst hv
  have hn : n = xs.length := by have := h.1; rw [hl] at this; omega
  subst hn
  exact ⟨a, c, rfl, hr, own_cap h, own_nil h, rfl⟩
set_option maxRecDepth 100000 in
set_option maxHeartbeats 4000000 in
theorem order_any (l : Shares) (ts : List ByteArray) (cs : List Int) (Q : Int) (w : World) (aq al acs : Option Addr) (cq cl ccs : Nat)
    (hq : Rqs w aq ts) (hx : Shs w al l) (hcs : Ints .i64 w acs cs) (hc : l.length ≤ cl) (hl : l.length ≤ 1000000) (hcq : ts.length ≤ cq) (htl : ts.length ≤ 1000000) (hccs : cs.length ≤ ccs) (hcl : cs.length ≤ 1000000) :
    Calls Try.prog 16 #[.slice al l.length cl, .slice aq ts.length cq, .slice acs cs.length ccs, .int .i64 Q] w (OrderR l ts cs Q w) := by
  have NW := Lib.hid (new_any l al cl w hx hc hl)
  by_cases hck : ckOf l = 0
  case neg =>
    have HA := Lib.hid (show errOf l ts.length cs Q = ckOf l by rw [errOf, if_pos hck])
    have HC := Lib.hid hck
    have q : (ckOf l != 0) = true := by rw [bne_iff_ne]; exact hck
    obtain ⟨ck, hk⟩ : ∃ ck, ckOf l = ck := ⟨_, rfl⟩
    have HK := Lib.hid hk
    rw [hk] at q
    clear hq hx hcs hck hk
    go_enter Try.func16, Try.ntmps16
    go_wp2_with fail
    refine NW.out.mono ?_
    rintro e w1 hN
    unfold NewR at hN
    rw [if_neg HC.out, HK.out] at hN
    obtain ⟨rfl, hb1⟩ := hN
    have HB := Lib.hid hb1
    clear hb1
    go_wp2
    refine bodyPost_ret (v := .tuple #[.slice none 0 0, .int .i64 ck]) (by simp [results, Try.results16, Try.f16, go_sem]) rfl ?_
    unfold OrderR
    rw [if_neg (by rw [HA.out]; exact HC.out), HA.out, HK.out]
    exact ⟨rfl, below_alloc HB.out _⟩
  have HC := Lib.hid hck
  have EX : Hid (∀ wx g, Below w.heap.size w wx → RowI wx w.heap.size g (l.length + 1) (List.replicate (l.length + 1) 0) → Calls Try.prog 26 #[.agg #[.int .i64 l.length, .slice (some ⟨g, 0, none⟩) (l.length + 1) (l.length + 1)], .slice al l.length cl, .slice aq ts.length cq, .slice acs cs.length ccs, .int .i64 Q] wx fun e w' => e = .returned (.int .i64 (errOf l ts.length cs Q)) ∧ Below wx.heap.size wx w') := Lib.hid fun wx g hb hr => by
    have hi : Ints .i64 wx (some ⟨g, 0, none⟩) (List.replicate (l.length + 1) 0) := hr.vals.ints
    have := examine_any l.length (List.replicate (l.length + 1) 0) (some ⟨g, 0, none⟩) (l.length + 1) l al cl ts.length aq cq Q cs acs ccs wx hi (by simp) (by have := ckOf_len hck; simp; omega) (hx.below hb) hc hl (hcs.below hb) hccs hcl htl
    rw [ex_start, List.length_replicate] at this
    exact this
  have hl64 := ckOf_len hck
  clear hck
  by_cases hek : errOf l ts.length cs Q = 0
  case neg =>
    have HC2 := Lib.hid hek
    have q : (errOf l ts.length cs Q != 0) = true := by rw [bne_iff_ne]; exact hek
    obtain ⟨ck, hk⟩ : ∃ ck, errOf l ts.length cs Q = ck := ⟨_, rfl⟩
    have HK := Lib.hid hk
    rw [hk] at q EX
    clear hq hx hcs hk hek
    go_enter Try.func16, Try.ntmps16
    go_wp2_with fail
    refine NW.out.mono ?_
    rintro e w1 hN
    unfold NewR at hN
    rw [if_pos HC.out] at hN
    obtain ⟨⟨g, rfl, hrow⟩, hb1⟩ := hN
    have HB := Lib.hid hb1
    have HR := Lib.hid hrow
    clear hb1 hrow
    go_wp2_with fail
    have L2 := below_alloc HB.out (.cells #[.int .i64 l.length, .slice (some ⟨g, 0, none⟩) (l.length + 1) (l.length + 1)] 31)
    have R2 := HR.out.below (below_alloc (Below.refl _ _) (.cells #[.int .i64 l.length, .slice (some ⟨g, 0, none⟩) (l.length + 1) (l.length + 1)] 31))
    refine (EX.out _ g L2 R2).mono ?_
    rintro e w2 ⟨rfl, hb2⟩
    have HB2 := Lib.hid (Below.next L2 hb2)
    clear L2 R2 hb2
    go_wp2
    refine bodyPost_ret (v := .tuple #[.slice none 0 0, .int .i64 ck]) (by simp [results, Try.results16, Try.f16, go_sem]) rfl ?_
    unfold OrderR
    rw [if_neg HC2.out, HK.out]
    exact ⟨rfl, HB2.out⟩
  have HE := Lib.hid hek
  obtain ⟨g, _, htl64⟩ := errOf_good hek
  rw [hek] at EX
  have hmk : ∀ W : World, (Instr.makeSlice 67 (.int .i64 (ts.length : Int)) (.int .i64 (ts.length : Int))).run Try.prog W = .ok (.slice (some ⟨W.heap.size, 0, none⟩) ts.length ts.length) (W.alloc (.cells (madeCells #[.bool false] ts.length) 4)) := fun W => by
    have := (make_bools W 0 ts.length (by omega) (Nat.zero_le _)).1
    rw [Nat.mul_one] at this
    exact this
  have HX := Lib.hid hx
  have HQ := Lib.hid hq
  have HCS := Lib.hid hcs
  clear hek hx hq hcs
  go_enter Try.func16, Try.ntmps16
  go_wp2_with fail
  refine NW.out.mono ?_
  rintro e w1 hN
  unfold NewR at hN
  rw [if_pos HC.out] at hN
  obtain ⟨⟨gc, rfl, hrow⟩, hb1⟩ := hN
  have HB := Lib.hid hb1
  have HR := Lib.hid hrow
  clear hb1 hrow NW
  go_wp2_with fail
  obtain ⟨W2, hW2⟩ : ∃ W2, W2 = w1.alloc (.cells #[.int .i64 l.length, .slice (some ⟨gc, 0, none⟩) (l.length + 1) (l.length + 1)] 31) := ⟨_, rfl⟩
  have L2 : Below w.heap.size w W2 := by rw [hW2]; exact below_alloc HB.out _
  have R2 : RowI W2 w.heap.size gc (l.length + 1) (List.replicate (l.length + 1) 0) := by rw [hW2]; exact HR.out.below (below_alloc (Below.refl _ _) _)
  have B2 : Blk W2 w1.heap.size 31 #[.int .i64 l.length, .slice (some ⟨gc, 0, none⟩) (l.length + 1) (l.length + 1)] := by rw [hW2]; exact Blk.new _ _ _
  have hg1 := HR.out.lt
  have hs1 := HB.out.size
  rw [← hW2]
  refine (EX.out _ gc L2 R2).mono ?_
  rintro e w3 ⟨rfl, hb3⟩
  have HM : Hid (OrM 31 w w1.heap.size w3.heap.size ts.length (ordN l ts cs Q 0) (.slice none 0 0) (w3.alloc (.cells (madeCells #[.bool false] ts.length) 4))) := by
    refine Lib.hid ⟨⟨gc, l.length + 1, ?_, ?_, by simp [ordN]⟩, ?_, ⟨by simp [ordN, nInts], .inl ⟨rfl, rfl⟩⟩, hs1, below_alloc (Below.next L2 hb3) _⟩
    · have := (B2.below hb3).alloc (.cells (madeCells #[.bool false] ts.length) 4)
      simpa [ordN] using this
    · exact ((R2.below hb3).below (below_alloc (Below.refl _ _) _)).vals.ints
    · have := (make_bools w3 w.heap.size ts.length (by omega) (by have := Below.next L2 hb3; exact this.size)).2
      rw [Nat.mul_one] at this
      exact this
  generalize w1.heap.size = B at *
  clear hW2 L2 R2 B2 hg1 hb3 HB HR EX hs1
  go_wp2
  generalize w3.heap.size = gd at *
  obtain ⟨W4, hW4⟩ : ∃ W4, W4 = w3.alloc (.cells (madeCells #[.bool false] ts.length) 4) := ⟨_, rfl⟩
  rw [← hW4] at HM ⊢
  clear hW4 hmk
  go_loopw [14, 39] (fun out i wr => ∃ k : Nat, i = .int .i64 k ∧ k ≤ ts.length ∧ Hid (OrM 31 w B gd ts.length (ordN l ts cs Q k) out wr)) (fun _ i _ => ts.length - (intOf i).toNat)
  case atStart => exact ⟨0, rfl, by omega, HM⟩
  case round =>
    clear HM
    obtain ⟨k, rfl, hk, HM⟩ := hrel
    by_cases h : k < ts.length
    · obtain ⟨⟨gc, cc, B0, I0, hnc⟩, D0, O0, lb, low⟩ := HM.out
      have oi := ordN_in g k (by omega)
      have onx : ordN l ts cs Q (k + 1) = ordStep l ts cs Q (ordN l ts cs Q k) := rfl
      unfold ordStep at onx
      have oi2 := ordN_in g (k + 1) (by omega)
      obtain ⟨o2, ho2⟩ : ∃ o2, ordN l ts cs Q (k + 1) = o2 := ⟨_, rfl⟩
      rw [ho2] at onx oi2
      replace ho2 := Lib.hid ho2
      generalize ordN l ts cs Q k = o at *
      have hol := oi.olen
      have hdl := oi.dlen
      have hcl2 : o.s.2.length = l.length + 1 := oi.st.len
      have hcd := D0.cap_le
      obtain ⟨ao, co, rfl, hvo, hco, hno, _⟩ := vals_nints O0
      have SV := serve_any l ts cs Q o.done o.s wr (some ⟨gc, 0, none⟩) aq (some ⟨gd, 0, none⟩) al acs cc cq ts.length cl ccs g oi.st I0 (HQ.out.below low) (HX.out.below low) (HCS.out.below low) D0.vals hdl hc (by omega) hcd hcq htl64 hccs hnc (fun h => by cases h) ((oi.some h).imp fun j hj => hj.2)
      have b0 : wr.cell? ⟨B, 0, none⟩ = some (.int .i64 o.s.1) := B0.cell 0
      have b1 : wr.cell? ⟨B, 1, none⟩ = some (.slice (some ⟨gc, 0, none⟩) o.s.2.length cc) := B0.cell 1
      rw [hdl] at SV
      have q0 : decide ((k : Int) < (ts.length : Int)) = true := decide_eq_true (by omega)
      have HI := Lib.hid (And.intro oi (And.intro oi2 (And.intro hol (And.intro hdl hcl2))))
      replace SV := Lib.hid SV
      have HP := Lib.hid (And.intro B0 (And.intro D0 (And.intro O0 (And.intro low (And.intro hco lb)))))
      clear B0 I0 D0 O0 oi oi2 hol hdl hcl2 hnc hcd low hvo hco hno HM lb
      go_wp2_with fail
      refine SV.out.mono ?_
      rintro e w5 ⟨r, g5, c5, hr, rfl, R5, L5⟩
      rw [← hr] at onx
      obtain ⟨⟨rt, rcr⟩, ri⟩ := r
      dsimp only at R5 onx ⊢
      obtain ⟨B0, D0, O0, low, hco, lb⟩ := HP.out
      obtain ⟨oi, oi2, hol, hdl, hcl2⟩ := HI.out
      have hri : ri < ts.length := by
        have := oi2.lt ri (by rw [onx]; simp)
        exact this
      have hlenr : rcr.length = o.s.2.length := by have := oi2.st.len; rw [onx] at this; dsimp only at this; rw [this, hcl2]; rfl
      have hltB := B0.lt
      have hltD := D0.lt
      have hlt5 := R5.lt
      have B5 := B0.below L5
      have D5 := D0.below L5
      have O5 := ownsRow_below O0 L5
      have low5 := Below.next low L5
      have hnOB := own_ne O5 B5 (by decide)
      have hnOD : (Value.slice ao o.out.length co).ownBlock ≠ some gd := by
        obtain ⟨cur, hcur⟩ := D5.heap
        exact own_ne O5 hcur (by decide)
      have hnDB := D5.ne B5 (by decide)
      have b0 : w5.cell? ⟨B, 0, none⟩ = some (.int .i64 o.s.1) := B5.cell 0
      have b1 : w5.cell? ⟨B, 1, none⟩ = some (.slice (some ⟨gc, 0, none⟩) o.s.2.length cc) := B5.cell 1
      have b2 := fun j => B5.free j
      have d0 : w5.cell? ⟨gd, ri, none⟩ = some (.bool (o.done[ri]'(by omega))) := D5.cell? ri _ (List.getElem?_eq_getElem (by omega))
      have d1 := fun j => D5.free j
      have hB5 : B < w5.heap.size := B5.lt
      have hD5 : gd < w5.heap.size := D5.lt.2
      have z0 : (0 : Int) ≤ (ri : Int) := by omega
      have z1 : (ri : Int) < (ts.length : Int) := by omega
      obtain ⟨W6, hW6⟩ : ∃ W6, W6 = ((((w5.setCell ⟨B, 0, none⟩ (.int .i64 rt)).setCell ⟨B, 1, none⟩ (.slice (some ⟨g5, 0, none⟩) rcr.length c5)).setCell ⟨gd, ri, none⟩ (.bool true)).alloc (.cells #[.int .i64 rt, .slice (some ⟨g5, 0, none⟩) rcr.length c5] 31)).alloc (.cells #[.int .i64 ri] 3) := ⟨_, rfl⟩
      have B6 : Blk W6 B 31 #[.int .i64 rt, .slice (some ⟨g5, 0, none⟩) rcr.length c5] := by
        rw [hW6]; exact (((((B5.set 0 _).set 1 _).other ri (Ne.symm hnDB) _).alloc _).alloc _)
      have hO5lt : ∀ j, (Value.slice ao o.out.length co).ownBlock = some j → j < wr.heap.size := fun j hj => by
        exact (World.ownsRow.lt O0 j hj).2
      have hn5 : (Value.slice ao o.out.length co).ownBlock ≠ some g5 := fun hj => by have := hO5lt _ hj; omega
      have R6 : RowI W6 wr.heap.size g5 c5 rcr := by
        rw [hW6]
        exact (((((R5.other 0 (by omega : g5 ≠ B) _).other 1 (by omega : g5 ≠ B) _).other ri (by omega : g5 ≠ gd) _).below (below_alloc (Below.refl _ _) _)).below (below_alloc (Below.refl _ _) _))
      have D6 : RowB W6 w.heap.size gd ts.length (o.done.set ri true) := by
        rw [hW6]
        exact (((((D5.other 0 hnDB _).other 1 hnDB _).set ri true).below (below_alloc (Below.refl _ _) _)).below (below_alloc (Below.refl _ _) _))
      have O6 : W6.ownsRow w.heap.size 3 1 (.slice ao o.out.length co) o.out.length (nInts o.out) := by
        rw [hW6]
        exact ownsRow_below (ownsRow_below (ownsRow_setCell_other (ownsRow_setCell_other (ownsRow_setCell_other O5 hnOB _) hnOB _) hnOD _) (below_alloc (Below.refl _ _) _)) (below_alloc (Below.refl _ _) _)
      have L6 : Below w.heap.size w W6 := by
        rw [hW6]
        exact below_alloc (below_alloc (((low5.setCell (p := ⟨B, 0, none⟩) lb _).setCell (p := ⟨B, 1, none⟩) lb _).setCell (p := ⟨gd, ri, none⟩) hltD.1 _) _) _
      have A6 : Vals W6 (some ⟨w5.heap.size + 1, 0, none⟩) [.int .i64 ri] := by
        have := vals_alloc (((((w5.setCell ⟨B, 0, none⟩ (.int .i64 rt)).setCell ⟨B, 1, none⟩ (.slice (some ⟨g5, 0, none⟩) rcr.length c5)).setCell ⟨gd, ri, none⟩ (.bool true)).alloc (.cells #[.int .i64 rt, .slice (some ⟨g5, 0, none⟩) rcr.length c5] 31))) [.int .i64 ri] 3
        rw [World.size_alloc, size_setCell, size_setCell, size_setCell] at this
        rw [hW6]; exact this
      have hol64 : o.out.length ≤ 64 := by omega
      have HW := Lib.hid hW6
      have HR := Lib.hid (And.intro onx (And.intro hri hlenr))
      have HO := Lib.hid (And.intro B6 (And.intro R6 (And.intro D6 (And.intro L6 (And.intro hnOB (And.intro hnOD (And.intro hn5 lb)))))))
      generalize o.done[ri]'(by omega) = ob at d0
      obtain ⟨i0, hi, hz0, hz1, hz2⟩ := info_parts info3
      have hlow : w.heap.size ≤ W6.heap.size := L6.size
      clear B0 D0 O0 B5 D5 O5 low5 R5 L5 hlt5 hltB hltD oi oi2 hol hdl hcl2 onx hri hlenr low SV hr B6 R6 D6 L6 hnOB hnOD hn5 hO5lt hW6 HP HI lb hco
      go_wp2_with (at_builtin; rw [← HW.out]; refine wpList_append_vals _ rfl _ _ 27 rfl w.heap.size 3 i0 (.int .i64 0) 8 Try.underlying27 hi hz0 hz1 hz2 rfl _ o.out.length (nInts o.out) rfl O6 (some ⟨w5.heap.size + 1, 0, none⟩) 1 1 [.int .i64 ri] rfl rfl A6 (by intro u hu; simp at hu; subst hu; rfl) (fun h => by cases h) (by unfold maxLen; omega) (by omega) hlow ?_)
      intro v8 w8 hown8 hgrow8
      obtain ⟨onx, hri, hlenr⟩ := HR.out
      obtain ⟨B6, R6, D6, L6, hnOB, hnOD, hn5, lb⟩ := HO.out
      have HN : Hid (OrM 31 w B gd ts.length o2 v8 w8) := by
        have hgB := B6.kept hgrow8 (Ne.symm hnOB)
        have hgR := R6.kept hgrow8 hn5
        have hgD := D6.kept hgrow8 hnOD
        rw [onx]
        refine Lib.hid ⟨⟨g5, c5, hgB, hgR.vals.ints, hgR.cap_le⟩, hgD, ?_, lb, below_app (w := w) L6 hgrow8 O6⟩
        have e1 : (o.out ++ [ri]).length = o.out.length + 1 := by simp
        have e2 : nInts (o.out ++ [ri]) = nInts o.out ++ [.int .i64 ri] := by simp [nInts]
        rw [e1, e2]; exact hown8
      clear hown8 hgrow8 B6 R6 D6 L6 hnOB hnOD hn5 lb onx hri hlenr O6 A6 HO HR
      go_wp2
      go_roundw
      case rel => exact ⟨k + 1, by go_num, by omega, by rw [ho2.out]; exact HN⟩
      case measure => simp [intOf]; omega
    · have q0 : decide ((k : Int) < (ts.length : Int)) = false := decide_eq_false (by omega)
      have HV : Hid ((ordN l ts cs Q k).out = orderOf l ts cs Q) := Lib.hid (by rw [show k = ts.length from by omega]; rfl)
      obtain ⟨_, _, O0, _, low⟩ := HM.out
      rw [HV.out] at O0
      have HO := Lib.hid (And.intro O0 low)
      clear O0 low HM
      go_wp2
      refine bodyPost_ret (v := .tuple #[u14, .int .i64 0]) (by simp [results, Try.results16, Try.f16, go_sem]) rfl ?_
      unfold OrderR
      rw [if_pos HE.out]
      exact ⟨⟨u14, rfl, HO.out.1⟩, HO.out.2⟩
end Go.Proofs.Ytdfnpknekjgkiaa
