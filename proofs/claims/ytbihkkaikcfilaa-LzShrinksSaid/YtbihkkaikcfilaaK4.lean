/- Pack's closure emit: its contract. -/
import Derived.Test.YtbihkkaikcfilaaK3
namespace Go.Proofs.Ytbihkkaikcfilaa
open Go.RowKit
set_option linter.unusedVariables false
set_option linter.unusedSimpArgs false

def litOf (xs : List Int) (start e : Nat) : List Int := if start < e then putN (2 * (e - start)) ++ (xs.drop start).take (e - start) else []
def copOf (n d : Nat) : List Int := if 0 < n then putN (2 * n + 1) ++ putN d else []
theorem putN_of {w : World} {base : Nat} {r : Value} {o : List Int} (h : w.ownsRow base 5 1 r o.length (o.map (Value.int .u8))) : ∃ ao co, r = .slice ao o.length co ∧ Ints .u8 w ao o ∧ o.length ≤ co ∧ (ao = none → co = 0) := by
  obtain ⟨ao, co, rfl, hi⟩ := ints_own h
  exact ⟨ao, co, rfl, hi, own_cap h, own_nil h⟩
theorem own_facts {w : World} {base : Nat} {a : Option Addr} {c : Nat} {o : List Int} (h : w.ownsRow base 5 1 (.slice a o.length c) o.length (o.map (Value.int .u8))) : Ints .u8 w a o ∧ o.length ≤ c ∧ (a = none → c = 0) := by
  refine ⟨?_, own_cap h, own_nil h⟩
  obtain ⟨ao, co, hv, hi⟩ := ints_own h
  injection hv with e1 _ e2
  rw [e1]; exact hi

set_option maxRecDepth 100000 in
set_option maxHeartbeats 8000000 in
theorem emit_any (w : World) (a : Option Addr) (c : Nat) (xs : List Int) (start e n d : Nat) (o : List Int) (wr : World) (ov : Value) (hS : PkS w a c xs start o wr ov) (hx : Ints .u8 w a xs) (hc : xs.length ≤ c) (hnil : a = none → c = 0)
    (hl : xs.length ≤ 200000) (hse : start ≤ e) (hen : e + n ≤ xs.length) (hd : d ≤ 200000) (ho : o.length ≤ 400000) :
    Calls Try.prog 20 #[.int .i64 e, .int .i64 n, .int .i64 d, .pointer (some ⟨w.heap.size + 2, 0, none⟩), .pointer (some ⟨w.heap.size + 1, 0, none⟩), .pointer (some ⟨w.heap.size, 0, none⟩)] wr fun r w' => r = .returned (.tuple #[]) ∧ ∃ ov', PkS w a c xs (e + n) (o ++ litOf xs start e ++ copOf n d) w' ov' ∧ KeepM w wr w' := by
  obtain ⟨i5, hi5, hy0, hy1, hy2⟩ := info_parts info5
  have cs := cell_of_one hS.b2
  by_cases h : start < e
  · have q1 : decide ((e : Int) > (start : Int)) = true := decide_eq_true (by omega)
    have q1' : decide (start < e) = true := decide_eq_true h
    obtain ⟨ao, co, rfl, hio, hoc, hon⟩ := putN_of hS.own
    have hl1 := putN_len (2 * (e - start)) (by omega)
    have C1 := cput_any (2 * (e - start)) ao co o wr hio hoc hon (by omega) (by omega)
    rw [show ((2 * (e - start) : Nat) : Int) = 2 * ((e : Int) - (start : Int)) from by omega] at C1
    have C1 := Lib.hid C1
    have c1 := cell_of_one hS.b1
    have hfin : litOf xs start e = putN (2 * (e - start)) ++ (xs.drop start).take (e - start) := by rw [litOf, if_pos h]
    have hI := fun wx (hb : Below w.heap.size w wx) => ((hx.below hb).drop start c hc).take (e - start)
    have hcn := cut_nil (m := start) hnil
    have hcut := fun W => mid_run (P := Try.prog) 22 5 Try.underlying22 hi5 .i64 .i64 a xs.length c start e (by omega) (by omega) W
    rw [hy1] at hcut
    have hln : ((xs.drop start).take (e - start)).length = e - start := by rw [List.length_take, List.length_drop]; omega
    have hll : (o ++ putN (2 * (e - start))).length ≤ 400003 := by rw [List.length_append]; omega
    generalize (if c = start then a else a.map (·.add (start * 1))) = a2 at *
    generalize (xs.drop start).take (e - start) = lit at *
    have HF := Lib.hid hfin
    have HI := Lib.hid hI
    have HS := Lib.hid hS
    have HC := Lib.hid hcut
    clear hio hoc hon hfin hI hx hS hcut
    go_enter Try.func20, Try.ntmps20
    go_wp2_with fail
    refine C1.out.mono ?_
    rintro r1 w1 ⟨v1, rfl, hown1, hb1⟩
    obtain ⟨a1, k1, rfl, _⟩ := putN_of hown1
    obtain ⟨S1, K1⟩ := HS.out.below hb1
    generalize hgq : o ++ putN (2 * (e - start)) = o1 at *
    have f1 := free_of_one S1.b1
    have c1' := cell_of_one S1.b1
    obtain ⟨S2, K2⟩ := set_out (o2 := o1) S1.b0 S1.b1 S1.b2 S1.sz S1.low (ownsRow_mono hown1 (by have := HS.out.sz; omega))
    have HK1 := Lib.hid (show KeepM w wr _ from K2.trans K1)
    have HS2 := Lib.hid S2
    have HG := Lib.hid hgq
    clear hown1 hb1 K1 K2 C1 S1 S2 hgq
    go_wp2
    generalize w1.setCell ⟨w.heap.size + 1, 0, none⟩ (.slice a1 o1.length k1) = W2 at *
    have g0 := cell_of_one HS2.out.b0
    have g1 := cell_of_one HS2.out.b1
    have g2 := cell_of_one HS2.out.b2
    have HC := HC.out
    go_still_tail 5, (by kernel_rfl)
    change wpList _ _ _ _ _ W2.drew
    have S3 := HS2.out.drew
    have hK3 : Hid (KeepM w wr W2.drew) := Lib.hid HK1.out
    generalize W2.drew = W3 at *
    refine wpList_append_vals _ rfl _ _ 22 rfl (w.heap.size + 4) 5 i5 (.int .u8 0) 1 Try.underlying22 hi5 hy0 hy1 hy2 rfl _ o1.length (o1.map (Value.int .u8)) rfl S3.own a2 (c - start) (e - start) (lit.map (Value.int .u8)) (by simp [hln]) rfl (HI.out _ S3.low).vals (ints_oneCell _ _) hcn (by unfold maxLen; omega) (by omega) S3.sz ?_
    intro v4 w4 hown4 hgrow4
    obtain ⟨t0, t1, t2, t3, t4, t5⟩ := S3.grown (o2 := []) (v2 := v4) hgrow4
    have hown4 : w4.ownsRow (w.heap.size + 4) 5 1 v4 (o1 ++ lit).length ((o1 ++ lit).map (Value.int .u8)) := by
      have e1 : (o1 ++ lit).length = o1.length + (e - start) := by rw [List.length_append, hln]
      rw [e1, List.map_append]; exact hown4
    have hlo : (o1 ++ lit).length ≤ 600003 := by rw [List.length_append, hln]; omega
    obtain ⟨a4, k4, rfl, _⟩ := putN_of hown4
    have f4 := free_of_one t1
    have c4 := cell_of_one t1
    obtain ⟨S4, K4⟩ := set_out (o2 := o1 ++ lit) t0 t1 t2 t3 t4 hown4
    have HS2 := Lib.hid S4
    have HK2 : Hid (KeepM w wr _) := Lib.hid (K4.trans (t5.trans hK3.out))
    have HO1 : Hid (o ++ litOf xs start e = o1 ++ lit) := Lib.hid (by rw [HF.out, ← List.append_assoc, HG.out])
    clear hown4 hgrow4 S4 K4 t0 t1 t2 t3 t4 t5 S3 hK3 HF HG HI HC g0 g1 g2
    generalize o1 ++ lit = o1 at *
    by_cases hn : 0 < n
    · have q3 : decide ((n : Int) > 0) = true := decide_eq_true (by omega)
      have q3' : decide (0 < n) = true := decide_eq_true hn
      obtain ⟨hio, hoc, hon⟩ := own_facts HS2.out.own
      have hl1 := putN_len (2 * n + 1) (by omega)
      have C1 := cput_any (2 * n + 1) a4 k4 o1 _ hio hoc hon (by omega) (by omega)
      rw [show ((2 * n + 1 : Nat) : Int) = 2 * (n : Int) + 1 from by omega] at C1
      have C1 := Lib.hid C1
      have c1 := cell_of_one HS2.out.b1
      have hfin : copOf n d = putN (2 * n + 1) ++ putN d := by rw [copOf, if_pos hn]
      have HF := Lib.hid hfin
      have hll : (o1 ++ putN (2 * n + 1)).length ≤ 1500000 := by rw [List.length_append]; omega
      clear hio hoc hon hfin hl1
      go_wp2_with fail
      refine C1.out.mono ?_
      rintro r3 w3 ⟨v3, rfl, hown3, hb3⟩
      obtain ⟨S3, K3⟩ := HS2.out.below hb3
      obtain ⟨a3, c3, rfl, hi3, hoc3, hon3⟩ := putN_of hown3
      generalize hg3 : o1 ++ putN (2 * n + 1) = o3 at *
      have HE3 := Lib.hid hg3
      clear hg3
      have C2 := Lib.hid (cput_any d a3 c3 o3 w3 hi3 hoc3 hon3 (by omega) (by omega))
      have HSz := Lib.hid (And.intro HS2.out.sz hb3.size)
      have HS3 := Lib.hid (And.intro S3 K3)
      clear hi3 hoc3 hon3 hown3 hb3 S3 K3 C1 c1
      go_wp2_with fail
      refine C2.out.mono ?_
      rintro r4 w4 ⟨v4, rfl, hown4, hb4⟩
      obtain ⟨a4, k4, rfl, _⟩ := putN_of hown4
      generalize hg4 : o3 ++ putN d = o4 at *
      have HE4 := Lib.hid hg4
      clear hg4
      obtain ⟨S4, K4⟩ := HS3.out.1.below hb4
      have f4 := free_of_one S4.b1
      have c4 := cell_of_one S4.b1
      obtain ⟨S5, K5⟩ := set_out (o2 := o4) S4.b0 S4.b1 S4.b2 S4.sz S4.low (ownsRow_mono hown4 (by have := HSz.out; omega))
      have f5 := free_of_one S5.b2
      have c5 := cell_of_one S5.b2
      obtain ⟨S6, K6⟩ := S5.setStart (e + n)
      have hse : ((e + n : Nat) : Int) = (e : Int) + (n : Int) := by omega
      rw [hse] at S6 K6
      have HS6 := Lib.hid S6
      have HK : Hid (KeepM w wr _) := Lib.hid (K6.trans (K5.trans (K4.trans (HS3.out.2.trans HK2.out))))
      clear S4 S5 S6 K4 K5 K6 hown4 hb4 C2 HS3
      go_wp2
      go_end0
      exact ⟨rfl, _, by rw [HO1.out, HF.out, ← List.append_assoc, HE3.out, HE4.out]; exact HS6.out, HK.out⟩
    · have q3 : decide ((n : Int) > 0) = false := decide_eq_false (by omega)
      have q3' : decide (0 < n) = false := decide_eq_false hn
      have hfin : copOf n d = [] := by rw [copOf, if_neg hn]
      have HF := Lib.hid hfin
      have f5 := free_of_one HS2.out.b2
      have c5 := cell_of_one HS2.out.b2
      obtain ⟨S6, K6⟩ := HS2.out.setStart (e + n)
      have hse : ((e + n : Nat) : Int) = (e : Int) + (n : Int) := by omega
      rw [hse] at S6 K6
      have HS6 := Lib.hid S6
      have HK : Hid (KeepM w wr _) := Lib.hid (K6.trans HK2.out)
      clear S6 K6 hfin
      go_wp2
      go_end0
      exact ⟨rfl, _, by rw [HO1.out, HF.out, List.append_nil]; exact HS6.out, HK.out⟩
  · have q1 : decide ((e : Int) > (start : Int)) = false := decide_eq_false (by omega)
    have q1' : decide (start < e) = false := decide_eq_false h
    have hfin : litOf xs start e = [] := by rw [litOf, if_neg h]
    have HG := Lib.hid hfin
    have HS2 := Lib.hid hS
    have HK2 : Hid (KeepM w wr wr) := Lib.hid rfl
    obtain ⟨o1, ho1⟩ : ∃ o1, o1 = o := ⟨_, rfl⟩
    have ho1l : o1.length ≤ 600000 := by rw [ho1]; omega
    have HO1 := Lib.hid (show o ++ litOf xs start e = o1 by rw [hfin, List.append_nil, ho1])
    rw [← ho1] at HS2
    clear hfin hS hx ho1
    go_enter Try.func20, Try.ntmps20
    by_cases hn : 0 < n
    · have q3 : decide ((n : Int) > 0) = true := decide_eq_true (by omega)
      have q3' : decide (0 < n) = true := decide_eq_true hn
      obtain ⟨ao, co, rfl, hio, hoc, hon⟩ := putN_of HS2.out.own
      have hl1 := putN_len (2 * n + 1) (by omega)
      have C1 := cput_any (2 * n + 1) ao co o1 _ hio hoc hon (by omega) (by omega)
      rw [show ((2 * n + 1 : Nat) : Int) = 2 * (n : Int) + 1 from by omega] at C1
      have C1 := Lib.hid C1
      have c1 := cell_of_one HS2.out.b1
      have hfin : copOf n d = putN (2 * n + 1) ++ putN d := by rw [copOf, if_pos hn]
      have HF := Lib.hid hfin
      have hll : (o1 ++ putN (2 * n + 1)).length ≤ 1500000 := by rw [List.length_append]; omega
      clear hio hoc hon hfin hl1
      go_wp2_with fail
      refine C1.out.mono ?_
      rintro r3 w3 ⟨v3, rfl, hown3, hb3⟩
      obtain ⟨S3, K3⟩ := HS2.out.below hb3
      obtain ⟨a3, c3, rfl, hi3, hoc3, hon3⟩ := putN_of hown3
      generalize hg3 : o1 ++ putN (2 * n + 1) = o3 at *
      have HE3 := Lib.hid hg3
      clear hg3
      have C2 := Lib.hid (cput_any d a3 c3 o3 w3 hi3 hoc3 hon3 (by omega) (by omega))
      have HSz := Lib.hid (And.intro HS2.out.sz hb3.size)
      have HS3 := Lib.hid (And.intro S3 K3)
      clear hi3 hoc3 hon3 hown3 hb3 S3 K3 C1 c1
      go_wp2_with fail
      refine C2.out.mono ?_
      rintro r4 w4 ⟨v4, rfl, hown4, hb4⟩
      obtain ⟨a4, k4, rfl, _⟩ := putN_of hown4
      generalize hg4 : o3 ++ putN d = o4 at *
      have HE4 := Lib.hid hg4
      clear hg4
      obtain ⟨S4, K4⟩ := HS3.out.1.below hb4
      have f4 := free_of_one S4.b1
      have c4 := cell_of_one S4.b1
      obtain ⟨S5, K5⟩ := set_out (o2 := o4) S4.b0 S4.b1 S4.b2 S4.sz S4.low (ownsRow_mono hown4 (by have := HSz.out; omega))
      have f5 := free_of_one S5.b2
      have c5 := cell_of_one S5.b2
      obtain ⟨S6, K6⟩ := S5.setStart (e + n)
      have hse : ((e + n : Nat) : Int) = (e : Int) + (n : Int) := by omega
      rw [hse] at S6 K6
      have HS6 := Lib.hid S6
      have HK : Hid (KeepM w wr _) := Lib.hid (K6.trans (K5.trans (K4.trans (HS3.out.2.trans HK2.out))))
      clear S4 S5 S6 K4 K5 K6 hown4 hb4 C2 HS3
      go_wp2
      go_end0
      exact ⟨rfl, _, by rw [HO1.out, HF.out, ← List.append_assoc, HE3.out, HE4.out]; exact HS6.out, HK.out⟩
    · have q3 : decide ((n : Int) > 0) = false := decide_eq_false (by omega)
      have q3' : decide (0 < n) = false := decide_eq_false hn
      have hfin : copOf n d = [] := by rw [copOf, if_neg hn]
      have HF := Lib.hid hfin
      have f5 := free_of_one HS2.out.b2
      have c5 := cell_of_one HS2.out.b2
      obtain ⟨S6, K6⟩ := HS2.out.setStart (e + n)
      have hse : ((e + n : Nat) : Int) = (e : Int) + (n : Int) := by omega
      rw [hse] at S6 K6
      have HS6 := Lib.hid S6
      have HK : Hid (KeepM w wr _) := Lib.hid (K6.trans HK2.out)
      clear S6 K6 hfin
      go_wp2
      go_end0
      exact ⟨rfl, _, by rw [HO1.out, HF.out, List.append_nil]; exact HS6.out, HK.out⟩
end Go.Proofs.Ytbihkkaikcfilaa
