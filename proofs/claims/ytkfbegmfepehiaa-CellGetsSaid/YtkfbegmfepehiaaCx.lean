/- Walks: the laws CellPuts and CellGets. -/
import Derived.Test.YtkfbegmfepehiaaCw
import Derived.KernelRfl
namespace Go.Proofs.Ytkfbegmfepehiaa
set_option linter.unusedVariables false
set_option linter.unusedSimpArgs false
open Go.RowKit Go.Proofs.YtkfbegmfepehiaaW.PrintWords Go.Proofs.YtkfbegmfepehiaaW.PrintLast Go.Proofs.YtkfbegmfepehiaaW.PrintMore
namespace Cell
open Go.Num Go.Crc PCellGets
theorem cells4 {x : World} {b t : Nat} {v0 v1 v2 v3 : Value} (h : x.heap[b]? = some (.cells #[v0, v1, v2, v3] t (0, 0))) : x.cell? ⟨b, 0, none⟩ = some v0 ∧ x.cell? ⟨b, 1, none⟩ = some v1 ∧ x.cell? ⟨b, 2, none⟩ = some v2 ∧ x.cell? ⟨b, 3, none⟩ = some v3 := ⟨cell_blk h, cell_blk h, cell_blk h, cell_blk h⟩
/-- The program's Get, of any bytes. -/
theorem get_any {w : World} (A : Option Addr) (c : Nat) (l : List Int) (hC : Kd.C (Kd.int .u8) w A l.length l) (hb : ∀ y ∈ l, 0 ≤ y ∧ y ≤ 255) (hc : l.length ≤ c) (hl : l.length ≤ 200000) :
    Calls Try.prog 13 #[.slice A l.length c] w fun e w' => ∃ A' c', e = .returned (.tuple #[.agg #[.int .i64 (getP l).1.o, .int .i64 (getP l).1.n, .int .i64 (getP l).1.x, .slice A' (getP l).1.d.length c'], .int .i64 (getP l).2]) ∧ (getP l).1.d.length ≤ c' ∧ (∀ x, Below w'.heap.size w' x → Kd.C (Kd.int .u8) x A' (getP l).1.d.length (getP l).1.d) ∧ Below w.heap.size w w' := by
  by_cases h : l.length ≠ 256 ∨ (openP l).2 ≠ 0
  · refine (get_no A c l hC hb hc hl h).mono ?_
    rintro e w1 ⟨rfl, b⟩
    have hz : (getP l).1 = zeroC := by
      unfold getP
      by_cases h1 : l.length ≠ 256
      · rw [if_pos h1]
      · rw [if_neg h1, if_pos (h.resolve_left h1)]
    rw [hz]
    exact ⟨none, 0, rfl, Nat.le_refl _, fun x _ => nilC x, b⟩
  · have h1 : l.length = 256 := Classical.byContradiction (fun e => h (Or.inl e))
    have h2 : (openP l).2 = 0 := Classical.byContradiction (fun e => h (Or.inr e))
    refine (get_yes A c l hC hb hc h1 h2).mono ?_
    rintro e w1 ⟨v, rfl, hr, b⟩
    obtain ⟨A', c', rfl⟩ := Kd.R_slice hr
    exact ⟨A', c', rfl, (Kd.R_reads' hr).2.1, stable_R hr, b⟩
theorem xget_any {w : World} (A : Option Addr) (c : Nat) (l : List Int) (hC : Kd.C (Kd.int .u8) w A l.length l) (hb : ∀ y ∈ l, 0 ≤ y ∧ y ≤ 255) (hc : l.length ≤ c) (hl : l.length ≤ 200000) :
    Calls Try.prog 15 #[.slice A l.length c] w fun e w' => ∃ A' c', e = .returned (.tuple #[.agg #[.int .i64 (getP l).1.o, .int .i64 (getP l).1.n, .int .i64 (getP l).1.x, .slice A' (getP l).1.d.length c'], .int .i64 (getP l).2]) ∧ (getP l).1.d.length ≤ c' ∧ (∀ x, Below w'.heap.size w' x → Kd.C (Kd.int .u8) x A' (getP l).1.d.length (getP l).1.d) ∧ Below w.heap.size w w' := by
  by_cases h : l.length ≠ 256 ∨ (openP l).2 ≠ 0
  · exact xget_no A c l hC hb hc hl h
  · have h1 : l.length = 256 := Classical.byContradiction (fun e => h (Or.inl e))
    have h2 : (openP l).2 = 0 := Classical.byContradiction (fun e => h (Or.inr e))
    exact xget_yes A c l hC hb hc h1 h2
theorem put_anyC {w : World} (o n x : Int) (A : Option Addr) (c : Nat) (d : List Int) (hC : Kd.C (Kd.int .u8) w A d.length d) (hc : d.length ≤ c) (hb : ∀ y ∈ d, 0 ≤ y ∧ y ≤ 255) :
    Calls Try.prog 11 #[.agg #[.int .i64 o, .int .i64 n, .int .i64 x, .slice A d.length c]] w fun e w' => ∃ A' c', e = .returned (.tuple #[.slice A' (putP o n x d).1.length c', .int .i64 (putP o n x d).2]) ∧ (putP o n x d).1.length ≤ c' ∧ (∀ x', Below w'.heap.size w' x' → Kd.C (Kd.int .u8) x' A' (putP o n x d).1.length (putP o n x d).1) ∧ Below w.heap.size w w' := by
  refine (put_any o n x A c d hC hc hb).mono ?_
  rintro e w1 ⟨v, rfl, hr, b⟩
  obtain ⟨A', c', rfl⟩ := Kd.R_slice hr
  exact ⟨A', c', rfl, (Kd.R_reads' hr).2.1, stable_R hr, b⟩
theorem xput_anyC {w : World} (o n x : Int) (A : Option Addr) (c : Nat) (d : List Int) (hC : Kd.C (Kd.int .u8) w A d.length d) (hc : d.length ≤ c) (hb : ∀ y ∈ d, 0 ≤ y ∧ y ≤ 255) :
    Calls Try.prog 12 #[.agg #[.int .i64 o, .int .i64 n, .int .i64 x, .slice A d.length c]] w fun e w' => ∃ A' c', e = .returned (.tuple #[.slice A' (putP o n x d).1.length c', .int .i64 (putP o n x d).2]) ∧ (putP o n x d).1.length ≤ c' ∧ (∀ x', Below w'.heap.size w' x' → Kd.C (Kd.int .u8) x' A' (putP o n x d).1.length (putP o n x d).1) ∧ Below w.heap.size w w' := by
  refine (xput_any o n x A c d hC hc hb).mono ?_
  rintro e w1 ⟨v, rfl, hr, b⟩
  obtain ⟨A', c', rfl⟩ := Kd.R_slice hr
  exact ⟨A', c', rfl, (Kd.R_reads' hr).2.1, stable_R hr, b⟩
theorem get_byte (l : List Int) (hb : ∀ x ∈ l, 0 ≤ x ∧ x ≤ 255) : ∀ y ∈ (getP l).1.d, 0 ≤ y ∧ y ≤ 255 := by
  unfold getP
  split
  · intro y hy; simp [zeroC] at hy
  · split
    · intro y hy; simp [zeroC] at hy
    · rename_i h1 h2
      split
      · intro y hy
        exact own_byte hb (Classical.byContradiction h2) y (List.mem_of_mem_drop (List.mem_of_mem_take hy))
      · intro y hy; simp [zeroC] at hy
set_option maxHeartbeats 16000000 in
set_option maxRecDepth 100000 in
theorem gets_walk {w : World} (A : Option Addr) (c : Nat) (l : List Int) (hC : Kd.C (Kd.int .u8) w A l.length l) (hc : l.length ≤ c) (hb : ∀ y ∈ l, 0 ≤ y ∧ y ≤ 255) :
    Calls Try.prog 4 #[.slice A l.length c] w fun e w' => e = .returned (.bool true) ∧ Below w.heap.size w w' := by
  have HC := Aside0.mk hC
  have HBY := Aside0.mk hb
  clear hC hb
  obtain ⟨ln, hln⟩ : ∃ ln, ln = l.length := ⟨_, rfl⟩
  rw [← hln] at hc
  by_cases h400 : ln > 400
  · rw [← hln]
    clear hln
    go_enter Try.func4, Try.ntmps4
    go_wp2_with fail
    refine awake_any.mono ?_
    rintro e w1 ⟨rfl, b⟩
    have HB := Aside0.mk b
    clear b
    go_wp2_with fail
    go_ret
    exact ⟨rfl, HB.out⟩
  · rw [← hln]
    have HLN := Aside0.mk hln
    clear hln
    go_enter Try.func4, Try.ntmps4
    go_wp2_with fail
    have hr' : l.length ≤ 200000 := by have := HLN.out; omega
    obtain ⟨go, hgo⟩ : ∃ z, z = (getP l).1.o := ⟨_, rfl⟩
    obtain ⟨gn, hgn⟩ : ∃ z, z = (getP l).1.n := ⟨_, rfl⟩
    obtain ⟨gx, hgx⟩ : ∃ z, z = (getP l).1.x := ⟨_, rfl⟩
    obtain ⟨gd, hgd⟩ : ∃ z, z = (getP l).1.d := ⟨_, rfl⟩
    obtain ⟨r, hr⟩ : ∃ z, z = (getP l).2 := ⟨_, rfl⟩
    have hgb : ∀ y ∈ gd, 0 ≤ y ∧ y ≤ 255 := by rw [hgd]; exact get_byte l HBY.out
    have HGB := Aside0.mk hgb
    have HPG := Aside0.mk (show r = 0 → putP go gn gx gd = (l, 0) from fun h => by rw [hgo, hgn, hgx, hgd]; exact put_get l HBY.out (by rw [← hr]; exact h))
    have h1 := get_any A c l HC.out HBY.out (by rw [← HLN.out]; exact hc) hr'
    have h2 := fun {x : World} (hx : Below w.heap.size w x) => xget_any A c l (Kd.C_below HC.out hx) HBY.out (by rw [← HLN.out]; exact hc) hr'
    rw [← hgo, ← hgn, ← hgx, ← hgd, ← hr, ← HLN.out] at h1
    simp only [← hgo, ← hgn, ← hgx, ← hgd, ← hr, ← HLN.out] at h2
    have H2 := Aside0.mk @h2
    clear h2 hgo hgn hgx hgd hr hgb hr'
    obtain ⟨dn, hdn⟩ : ∃ dn, dn = gd.length := ⟨_, rfl⟩
    have HDN := Aside0.mk hdn
    refine h1.mono ?_
    clear h1
    rintro e w1 ⟨A1, c1, rfl, hc1, hC1, b1⟩
    rw [← hdn] at hc1 hC1
    rw [← hdn]
    clear hdn
    have HC1 := Aside0.mk hC1
    have HB1 := Aside0.mk b1
    clear b1 hC1
    go_wp2_with fail
    obtain ⟨w2, hw2⟩ : ∃ w2, w2 = (w1.alloc (.cells #[.int .i64 go, .int .i64 gn, .int .i64 gx, .slice A1 dn c1] 24)) := ⟨_, rfl⟩
    have hx2 : w2.heap[w1.heap.size]? = some (.cells #[.int .i64 go, .int .i64 gn, .int .i64 gx, .slice A1 dn c1] 24 (0, 0)) := by rw [hw2]; exact heap_alloc_new w1 _
    have b2 : Below w1.heap.size w1 w2 := by rw [hw2]; exact (Below.refl _ _).alloc (Nat.le_refl _) _
    have hs2 : w1.heap.size < w2.heap.size := by rw [hw2]; simp
    rw [← hw2]
    have HB2 := Aside0.mk (HB1.out.trans (b2.mono HB1.out.size))
    have HC2 := Aside0.mk (show ∀ x, Below w2.heap.size w2 x → Kd.C (Kd.int .u8) x A1 dn gd from fun x hx => HC1.out x (b2.trans (hx.mono b2.size)))
    have HX2 := Aside0.mk (show ∀ x, Below w2.heap.size w2 x → x.heap[w1.heap.size]? = some (.cells #[.int .i64 go, .int .i64 gn, .int .i64 gx, .slice A1 dn c1] 24 (0, 0)) from fun x hx => (hx.block _ hs2).trans hx2)
    clear hw2 hx2 b2 hs2 HB1 HC1
    refine (H2.out HB2.out).mono ?_
    rintro e w3 ⟨A3, c3, rfl, hc3, hC3, b3⟩
    rw [← HDN.out] at hc3 hC3
    rw [← HDN.out]
    have HC3 := Aside0.mk hC3
    have HB3 := Aside0.mk b3
    clear b3 hC3 H2
    have hax : ∀ o, (w3.alloc o).heap[w1.heap.size]? = some (.cells #[.int .i64 go, .int .i64 gn, .int .i64 gx, .slice A1 dn c1] 24 (0, 0)) := fun o => HX2.out _ (HB3.out.alloc HB3.out.size _)
    have ha0 : ∀ o, (w3.alloc o).cell? ⟨w1.heap.size, 0, none⟩ = some (.int .i64 go) := fun o => (cells4 (hax o)).1
    have ha1 : ∀ o, (w3.alloc o).cell? ⟨w1.heap.size, 1, none⟩ = some (.int .i64 gn) := fun o => (cells4 (hax o)).2.1
    have ha2 : ∀ o, (w3.alloc o).cell? ⟨w1.heap.size, 2, none⟩ = some (.int .i64 gx) := fun o => (cells4 (hax o)).2.2.1
    have ha3 : ∀ o, (w3.alloc o).cell? ⟨w1.heap.size, 3, none⟩ = some (.slice A1 dn c1) := fun o => (cells4 (hax o)).2.2.2
    clear hax
    go_wp2_with fail
    clear ha0 ha1 ha2 ha3
    obtain ⟨w4, hw4⟩ : ∃ w4, w4 = (w3.alloc (.cells #[.int .i64 go, .int .i64 gn, .int .i64 gx, .slice A3 dn c3] 24)) := ⟨_, rfl⟩
    have hx4 : w4.heap[w3.heap.size]? = some (.cells #[.int .i64 go, .int .i64 gn, .int .i64 gx, .slice A3 dn c3] 24 (0, 0)) := by rw [hw4]; exact heap_alloc_new w3 _
    have b4 : Below w3.heap.size w3 w4 := by rw [hw4]; exact (Below.refl _ _).alloc (Nat.le_refl _) _
    have hs4 : w3.heap.size < w4.heap.size := by rw [hw4]; simp
    rw [← hw4]
    have HB4 := Aside0.mk (HB3.out.trans (b4.mono HB3.out.size))
    have HC4 := Aside0.mk (show ∀ x, Below w4.heap.size w4 x → Kd.C (Kd.int .u8) x A3 dn gd from fun x hx => HC3.out x (b4.trans (hx.mono b4.size)))
    have HX4 := Aside0.mk (show ∀ x, Below w4.heap.size w4 x → x.heap[w3.heap.size]? = some (.cells #[.int .i64 go, .int .i64 gn, .int .i64 gx, .slice A3 dn c3] 24 (0, 0)) from fun x hx => (hx.block _ hs4).trans hx4)
    clear hw4 hx4 b4 hs4 HB3 HC3
    obtain ⟨P, hP⟩ : ∃ P, P = putP go gn gx gd := ⟨_, rfl⟩
    have h5 := put_anyC go gn gx A1 c1 gd (w := w4) (by rw [← HDN.out]; exact HC2.out _ HB4.out) (by rw [← HDN.out]; exact hc1) HGB.out
    rw [← hP, ← HDN.out] at h5
    have HPG2 := Aside0.mk (show r = 0 → P = (l, 0) from fun h => by rw [hP]; exact HPG.out h)
    obtain ⟨pl, hpl⟩ : ∃ pl, pl = P.1.length := ⟨_, rfl⟩
    obtain ⟨pr, hpr⟩ : ∃ pr, pr = P.2 := ⟨_, rfl⟩
    refine h5.mono ?_
    clear h5 HPG
    rintro e w5 ⟨A5, c5, rfl, hc5, hC5, b5⟩
    rw [← hpl, ← hpr]
    rw [← hpl] at hc5 hC5
    have HPL := Aside0.mk hpl
    have HPR := Aside0.mk hpr
    have HC5 := Aside0.mk hC5
    have HB5 := Aside0.mk b5
    clear hP hpl hpr hC5 b5
    have hb25 := HB4.out.trans (HB5.out.mono HB4.out.size)
    obtain ⟨hy0, hy1, hy2, hy3⟩ := cells4 (HX2.out w5 hb25)
    obtain ⟨hz0, hz1, hz2, hz3⟩ := cells4 (HX4.out w5 HB5.out)
    have HB25 := Aside0.mk (HB2.out.trans (hb25.mono HB2.out.size))
    have hsame := same_any go gn gx go gn gx A1 A3 c1 c3 gd gd (w := w5) (by rw [← HDN.out]; exact HC2.out _ hb25) (by rw [← HDN.out]; exact hc1) (by rw [← HDN.out]; exact HC4.out _ HB5.out) (by rw [← HDN.out]; exact hc3) ⟨rfl, rfl, rfl, rfl⟩
    rw [← HDN.out] at hsame
    have HS := Aside0.mk hsame
    clear hb25 hsame
    go_wp2_with fail
    clear hy0 hy1 hy2 hy3 hz0 hz1 hz2 hz3
    refine HS.out.mono ?_
    rintro e w6 ⟨rfl, b6⟩
    have HB6 := Aside0.mk (HB25.out.trans (b6.mono HB25.out.size))
    obtain ⟨T, hT⟩ : ∃ T, T = strOfNums P.1 := ⟨_, rfl⟩
    obtain ⟨U, hU⟩ : ∃ U, U = strOfNums l := ⟨_, rfl⟩
    have hcv1 : (convert 22 9 (.slice A5 pl c5)).run Try.prog w6 = .ok (.string T) w6 := by rw [hT]; exact strC (HC5.out _ b6)
    have hcv2 : (convert 22 9 (.slice A ln c)).run Try.prog w6 = .ok (.string U) w6 := by
      rw [hU]
      have := Kd.C_below HC.out HB6.out
      rw [← HLN.out] at this
      exact strC this
    have HTU := Aside0.mk (show r = 0 → T = U from fun h => by rw [hT, hU, HPG2.out h])
    clear b6 hT hU HS
    by_cases h0 : r = 0
    · subst h0
      obtain rfl := HTU.out rfl
      have h2 : pr = 0 := by rw [HPR.out, HPG2.out rfl]
      subst h2
      go_wp2_with fail
      refine awake_any.mono ?_
      rintro e w7 ⟨rfl, b7⟩
      have HB7 := Aside0.mk (HB6.out.trans (b7.mono HB6.out.size))
      clear b7
      go_wp2_with fail
      go_ret
      exact ⟨rfl, HB7.out⟩
    · have h1 : (r == 0) = false := by simpa using h0
      go_wp2_with fail
      refine awake_any.mono ?_
      rintro e w7 ⟨rfl, b7⟩
      have HB7 := Aside0.mk (HB6.out.trans (b7.mono HB6.out.size))
      clear b7
      go_wp2_with fail
      go_ret
      exact ⟨rfl, HB7.out⟩
theorem puts_code (o n x : Int) (d : List Int) : (cellOk o n x d = true ∧ (putP o n x d).2 = 0) ∨ (¬ cellOk o n x d = true ∧ (putP o n x d).2 = 1) := by
  by_cases h : cellOk o n x d = true
  · exact Or.inl ⟨h, by rw [put_body h]⟩
  · exact Or.inr ⟨h, by unfold putP; rw [if_neg h]⟩
theorem puts_len (o n x : Int) (d : List Int) : (putP o n x d).1.length ≤ 200000 := by
  unfold putP
  split
  · rename_i h
    rw [seal_len, bodyC_len _ _ _ _ (okD h).2.2.2.2.2.2.2]
    decide
  · exact Nat.zero_le _
set_option maxHeartbeats 16000000 in
set_option maxRecDepth 100000 in
theorem puts_walk {w : World} (o n x : Int) (A : Option Addr) (c : Nat) (d : List Int) (hC : Kd.C (Kd.int .u8) w A d.length d) (hc : d.length ≤ c) (hb : ∀ y ∈ d, 0 ≤ y ∧ y ≤ 255) :
    Calls Try.prog 3 #[.agg #[.int .i64 o, .int .i64 n, .int .i64 x, .slice A d.length c]] w fun e w' => e = .returned (.bool true) ∧ Below w.heap.size w w' := by
  have HC := Aside0.mk hC
  have HBY := Aside0.mk hb
  clear hC hb
  obtain ⟨ln, hln⟩ : ∃ ln, ln = d.length := ⟨_, rfl⟩
  rw [← hln] at hc
  rw [← hln]
  have HLN := Aside0.mk hln
  clear hln
  by_cases h400 : ln > 400
  · go_enter Try.func3, Try.ntmps3
    go_wp2_with fail
    refine awake_any.mono ?_
    rintro e w1 ⟨rfl, b⟩
    have HB := Aside0.mk (((Below.refl w.heap.size w).alloc (Nat.le_refl _) _).trans (b.mono (by simp)))
    clear b
    go_wp2_with fail
    go_ret
    exact ⟨rfl, HB.out⟩
  · go_enter Try.func3, Try.ntmps3
    go_wp2_with fail
    obtain ⟨w0, hw0⟩ : ∃ w0, w0 = (w.alloc (.cells #[.int .i64 o, .int .i64 n, .int .i64 x, .slice A ln c] 24)) := ⟨_, rfl⟩
    have hx0 : w0.heap[w.heap.size]? = some (.cells #[.int .i64 o, .int .i64 n, .int .i64 x, .slice A ln c] 24 (0, 0)) := by rw [hw0]; exact heap_alloc_new w _
    have b0 : Below w.heap.size w w0 := by rw [hw0]; exact (Below.refl _ _).alloc (Nat.le_refl _) _
    have hs0 : w.heap.size < w0.heap.size := by rw [hw0]; simp
    rw [← hw0]
    have HB0 := Aside0.mk b0
    have HX0 := Aside0.mk (show ∀ x', Below w0.heap.size w0 x' → x'.heap[w.heap.size]? = some (.cells #[.int .i64 o, .int .i64 n, .int .i64 x, .slice A ln c] 24 (0, 0)) from fun x' hx => (hx.block _ hs0).trans hx0)
    clear hw0 hx0 b0 hs0
    obtain ⟨P, hP⟩ : ∃ P, P = putP o n x d := ⟨_, rfl⟩
    have h1 : ∀ x', Below w0.heap.size w0 x' → Calls Try.prog 11 #[.agg #[.int .i64 o, .int .i64 n, .int .i64 x, .slice A d.length c]] x' fun e w' => ∃ A' c', e = .returned (.tuple #[.slice A' (putP o n x d).1.length c', .int .i64 (putP o n x d).2]) ∧ (putP o n x d).1.length ≤ c' ∧ (∀ y, Below w'.heap.size w' y → Kd.C (Kd.int .u8) y A' (putP o n x d).1.length (putP o n x d).1) ∧ Below x'.heap.size x' w' := fun x' hx => put_anyC o n x A c d (Kd.C_below HC.out (HB0.out.trans (hx.mono HB0.out.size))) (by rw [← HLN.out]; exact hc) HBY.out
    have h2 : ∀ x', Below w0.heap.size w0 x' → Calls Try.prog 12 #[.agg #[.int .i64 o, .int .i64 n, .int .i64 x, .slice A d.length c]] x' fun e w' => ∃ A' c', e = .returned (.tuple #[.slice A' (putP o n x d).1.length c', .int .i64 (putP o n x d).2]) ∧ (putP o n x d).1.length ≤ c' ∧ (∀ y, Below w'.heap.size w' y → Kd.C (Kd.int .u8) y A' (putP o n x d).1.length (putP o n x d).1) ∧ Below x'.heap.size x' w' := fun x' hx => xput_anyC o n x A c d (Kd.C_below HC.out (HB0.out.trans (hx.mono HB0.out.size))) (by rw [← HLN.out]; exact hc) HBY.out
    obtain ⟨pl, hpl⟩ : ∃ pl, pl = P.1.length := ⟨_, rfl⟩
    obtain ⟨pr, hpr⟩ : ∃ pr, pr = P.2 := ⟨_, rfl⟩
    rw [← hP, ← hpl, ← hpr, ← HLN.out] at h1 h2
    have HP1 := Aside0.mk h1
    have HP2 := Aside0.mk h2
    have HPL := Aside0.mk hpl
    have HPB := Aside0.mk (show ∀ y ∈ P.1, 0 ≤ y ∧ y ≤ 255 from put_byte HBY.out hP)
    have HPN := Aside0.mk (show P.1.length ≤ 200000 by rw [hP]; exact puts_len o n x d)
    have HPR := Aside0.mk (show (pr = 0 ∧ getP P.1 = (⟨o, n, x, d⟩, 0)) ∨ pr = 1 by
      rcases puts_code o n x d with ⟨h, h'⟩ | ⟨_, h'⟩
      · exact Or.inl ⟨by rw [hpr, hP, h'], by rw [hP]; exact get_put o n x d h⟩
      · exact Or.inr (by rw [hpr, hP, h']))
    clear h1 h2 hpl hpr hP
    refine (HP1.out w0 (Below.refl _ _)).mono ?_
    clear HP1
    rintro e w1 ⟨A1, c1, rfl, hc1, hC1, b1⟩
    have HC1 := Aside0.mk hC1
    have HB1 := Aside0.mk b1
    clear hC1 b1
    obtain ⟨hy0, hy1, hy2, hy3⟩ := cells4 (HX0.out w1 HB1.out)
    go_wp2_with fail
    clear hy0 hy1 hy2 hy3
    refine (HP2.out w1 HB1.out).mono ?_
    clear HP2
    rintro e w2 ⟨A2, c2, rfl, hc2, hC2, b2⟩
    have HC2 := Aside0.mk hC2
    have HB2 := Aside0.mk (HB1.out.trans (b2.mono HB1.out.size))
    have HD1 := Aside0.mk (HC1.out w2 b2)
    clear hC2 b2 HC1
    go_wp2_with fail
    have hg := get_any A1 c1 P.1 (w := w2) (by rw [← HPL.out]; exact HD1.out) HPB.out (by rw [← HPL.out]; exact hc1) HPN.out
    rcases HPR.out with ⟨h0, hgg⟩ | h0
    · subst h0
      rw [hgg, ← HPL.out] at hg
      simp only [← HLN.out] at hg
      refine hg.mono ?_
      clear hg hgg HPR
      rintro e w3 ⟨A3, c3, rfl, hc3, hC3, b3⟩
      have HC3 := Aside0.mk hC3
      have HB3 := Aside0.mk b3
      clear hC3 b3
      have hw4 : ∀ ob, Below w3.heap.size w3 (w3.alloc ob) := fun ob => (Below.refl _ _).alloc (Nat.le_refl _) _
      obtain ⟨T, hT⟩ : ∃ T, T = strOfNums P.1 := ⟨_, rfl⟩
      have hcv1 : ∀ ob, (convert 22 9 (.slice A1 pl c1)).run Try.prog (w3.alloc ob) = .ok (.string T) (w3.alloc ob) := fun ob => by rw [hT]; exact strC (Kd.C_below HD1.out (HB3.out.trans ((hw4 ob).mono HB3.out.size)))
      have hcv2 : ∀ ob, (convert 22 9 (.slice A2 pl c2)).run Try.prog (w3.alloc ob) = .ok (.string T) (w3.alloc ob) := fun ob => by rw [hT]; exact strC (HC2.out _ (HB3.out.trans ((hw4 ob).mono HB3.out.size)))
      have hb03 : ∀ ob, Below w0.heap.size w0 (w3.alloc ob) := fun ob => HB2.out.trans ((HB3.out.trans ((hw4 ob).mono HB3.out.size)).mono HB2.out.size)
      have HB03 := Aside0.mk hb03
      have hy0 : ∀ ob, (w3.alloc ob).cell? ⟨w.heap.size, 0, none⟩ = some (.int .i64 o) := fun ob => (cells4 (HX0.out _ (hb03 ob))).1
      have hy1 : ∀ ob, (w3.alloc ob).cell? ⟨w.heap.size, 1, none⟩ = some (.int .i64 n) := fun ob => (cells4 (HX0.out _ (hb03 ob))).2.1
      have hy2 : ∀ ob, (w3.alloc ob).cell? ⟨w.heap.size, 2, none⟩ = some (.int .i64 x) := fun ob => (cells4 (HX0.out _ (hb03 ob))).2.2.1
      have hy3 : ∀ ob, (w3.alloc ob).cell? ⟨w.heap.size, 3, none⟩ = some (.slice A ln c) := fun ob => (cells4 (HX0.out _ (hb03 ob))).2.2.2
      clear hT hw4 hb03
      go_wp2_with fail
      clear hy0 hy1 hy2 hy3 hcv1 hcv2
      have hal : Below w3.heap.size w3 (w3.alloc (.cells #[.int .i64 o, .int .i64 n, .int .i64 x, .slice A3 ln c3] 24)) := (Below.refl _ _).alloc (Nat.le_refl _) _
      have hsm := same_any o n x o n x A A3 c c3 d d (w := w3.alloc (.cells #[.int .i64 o, .int .i64 n, .int .i64 x, .slice A3 ln c3] 24)) (Kd.C_below HC.out (HB0.out.trans ((HB03.out _).mono HB0.out.size))) (by rw [← HLN.out]; exact hc) (by rw [← HLN.out]; exact HC3.out _ hal) (by rw [← HLN.out]; exact hc3) ⟨rfl, rfl, rfl, rfl⟩
      rw [← HLN.out] at hsm
      refine hsm.mono ?_
      clear hsm hal
      rintro e w5 ⟨rfl, b5⟩
      have HB5 := Aside0.mk (HB0.out.trans (((HB03.out _).trans (b5.mono (HB03.out _).size)).mono HB0.out.size))
      clear b5
      go_wp2_with fail
      refine awake_any.mono ?_
      rintro e w6 ⟨rfl, b6⟩
      have HB6 := Aside0.mk (HB5.out.trans (b6.mono HB5.out.size))
      clear b6
      go_wp2_with fail
      go_ret
      exact ⟨rfl, HB6.out⟩
    · subst h0
      obtain ⟨G, hG⟩ : ∃ G, G = getP P.1 := ⟨_, rfl⟩
      rw [← hG, ← HPL.out] at hg
      obtain ⟨go, hgo⟩ : ∃ z, z = G.1.o := ⟨_, rfl⟩
      obtain ⟨gn, hgn⟩ : ∃ z, z = G.1.n := ⟨_, rfl⟩
      obtain ⟨gx, hgx⟩ : ∃ z, z = G.1.x := ⟨_, rfl⟩
      obtain ⟨gd, hgd⟩ : ∃ z, z = G.1.d.length := ⟨_, rfl⟩
      obtain ⟨gr, hgr⟩ : ∃ z, z = G.2 := ⟨_, rfl⟩
      rw [← hgo, ← hgn, ← hgx, ← hgd, ← hgr] at hg
      clear hG hgo hgn hgx hgd hgr
      refine hg.mono ?_
      clear hg HPR
      rintro e w3 ⟨A3, c3, rfl, -, -, b3⟩
      have HB3 := Aside0.mk b3
      clear b3
      have hw4 : ∀ ob, Below w3.heap.size w3 (w3.alloc ob) := fun ob => (Below.refl _ _).alloc (Nat.le_refl _) _
      obtain ⟨T, hT⟩ : ∃ T, T = strOfNums P.1 := ⟨_, rfl⟩
      have hcv1 : ∀ ob, (convert 22 9 (.slice A1 pl c1)).run Try.prog (w3.alloc ob) = .ok (.string T) (w3.alloc ob) := fun ob => by rw [hT]; exact strC (Kd.C_below HD1.out (HB3.out.trans ((hw4 ob).mono HB3.out.size)))
      have hcv2 : ∀ ob, (convert 22 9 (.slice A2 pl c2)).run Try.prog (w3.alloc ob) = .ok (.string T) (w3.alloc ob) := fun ob => by rw [hT]; exact strC (HC2.out _ (HB3.out.trans ((hw4 ob).mono HB3.out.size)))
      have hb03 : ∀ ob, Below w0.heap.size w0 (w3.alloc ob) := fun ob => HB2.out.trans ((HB3.out.trans ((hw4 ob).mono HB3.out.size)).mono HB2.out.size)
      have HB03 := Aside0.mk hb03
      have hy0 : ∀ ob, (w3.alloc ob).cell? ⟨w.heap.size, 0, none⟩ = some (.int .i64 o) := fun ob => (cells4 (HX0.out _ (hb03 ob))).1
      have hy1 : ∀ ob, (w3.alloc ob).cell? ⟨w.heap.size, 1, none⟩ = some (.int .i64 n) := fun ob => (cells4 (HX0.out _ (hb03 ob))).2.1
      have hy2 : ∀ ob, (w3.alloc ob).cell? ⟨w.heap.size, 2, none⟩ = some (.int .i64 x) := fun ob => (cells4 (HX0.out _ (hb03 ob))).2.2.1
      have hy3 : ∀ ob, (w3.alloc ob).cell? ⟨w.heap.size, 3, none⟩ = some (.slice A ln c) := fun ob => (cells4 (HX0.out _ (hb03 ob))).2.2.2
      clear hT hw4 hb03
      go_wp2_with fail
      refine awake_any.mono ?_
      rintro e w5 ⟨rfl, b5⟩
      have HB5 := Aside0.mk (HB0.out.trans (((HB03.out _).trans (b5.mono (HB03.out _).size)).mono HB0.out.size))
      clear b5
      go_wp2_with fail
      go_ret
      exact ⟨rfl, HB5.out⟩
end Cell
end Go.Proofs.Ytkfbegmfepehiaa
