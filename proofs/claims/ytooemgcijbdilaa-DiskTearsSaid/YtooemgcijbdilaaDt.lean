/- DiskTears, plain. -/
import Derived.Test.YtooemgcijbdilaaDk
namespace Go.Proofs.Ytooemgcijbdilaa
set_option linter.unusedVariables false
set_option linter.unusedSimpArgs false
open Go.RowKit Go.Proofs.YtooemgcijbdilaaW.PrintWords Go.Proofs.YtooemgcijbdilaaW.PrintLast Go.Proofs.YtooemgcijbdilaaW.PrintMore
namespace Disk
open Go.Disk PDiskDoes
/-- A sector of a block. -/
def sec (k : Nat) (l : List Int) : List Int := (l.drop (64 * k)).take 64
theorem torn_get (on : Nat → Bool) (was bs : List Int) (hw : was.length = 256) (hb : bs.length = 256) : ∀ j, j ≤ 4 → ∀ i, i < 256 → (tornTo on was bs j)[i]? = if i / 64 < j ∧ on (i / 64) = true then bs[i]? else was[i]?
  | 0, _, i, hi => by simp [tornTo]
  | j + 1, hj, i, hi => by
    have ih := torn_get on was bs hw hb j (by omega)
    have hl := tornTo_len on was bs hw hb j (by omega)
    unfold tornTo
    by_cases ho : on j = true
    · rw [if_pos ho]
      by_cases h1 : i < 64 * j
      · rw [List.getElem?_append_left (by rw [List.length_take]; omega), List.getElem?_take_of_lt h1, ih i hi]
        have h2 : i / 64 < j := by omega
        simp [h2, show i / 64 < j + 1 by omega]
      · rw [List.getElem?_append_right (by rw [List.length_take]; omega), List.length_take, hl, Nat.min_eq_left (by omega)]
        by_cases h2 : i < 64 * j + 64
        · rw [List.getElem?_append_left (by rw [List.length_take, List.length_drop]; omega), List.getElem?_take_of_lt (by omega), List.getElem?_drop]
          have h3 : i / 64 = j := by omega
          rw [h3, show 64 * j + (i - 64 * j) = i by omega]
          simp [ho]
        · rw [List.getElem?_append_right (by rw [List.length_take, List.length_drop]; omega), List.length_take, List.length_drop, hb, Nat.min_eq_left (by omega), List.getElem?_drop, show 64 * j + 64 + (i - 64 * j - 64) = i by omega, ih i hi]
          have h3 : ¬ (i / 64 < j + 1) := by omega
          simp [h3, show ¬ (i / 64 < j) by omega]
    · rw [if_neg ho, ih i hi]
      by_cases h2 : i / 64 < j
      · simp [h2, show i / 64 < j + 1 by omega]
      · by_cases h3 : i / 64 = j
        · rw [h3]; simp [ho]
        · simp [h2, show ¬ (i / 64 < j + 1) by omega]
theorem sec_torn (on : Nat → Bool) (was bs : List Int) (hw : was.length = 256) (hb : bs.length = 256) (k : Nat) (hk : k < 4) : sec k (tornTo on was bs 4) = if on k = true then sec k bs else sec k was := by
  have h := torn_get on was bs hw hb 4 (Nat.le_refl _)
  have hl := tornTo_len on was bs hw hb 4 (Nat.le_refl _)
  apply List.ext_getElem?
  intro i
  by_cases hi : i < 64
  · have e : ∀ l : List Int, (sec k l)[i]? = l[64 * k + i]? := fun l => by unfold sec; rw [List.getElem?_take_of_lt hi, List.getElem?_drop]
    rw [e, h _ (by omega)]
    have h3 : (64 * k + i) / 64 = k := by omega
    rw [h3]
    by_cases ho : on k = true
    · simp [ho, hk, e]
    · simp [ho, e]
  · have e : ∀ l : List Int, (sec k l)[i]? = none := fun l => by unfold sec; exact List.getElem?_eq_none (by rw [List.length_take]; omega)
    rw [e]
    split <;> rw [e]
theorem sec_len (k : Nat) (hk : k < 4) (l : List Int) (h : l.length = 256) : (sec k l).length = 64 := by
  unfold sec
  rw [List.length_take, List.length_drop]
  omega
def tearsTo (ws : List (List Int)) (ms : List Int) : Nat → List Int
  | 0 => zblock
  | i + 1 => tornTo (onM (ms.getD i 0)) (tearsTo ws ms i) (blockOf (ws.getD i [])) 4
def wantTo (ws : List (List Int)) (ms : List Int) (k : Nat) : Nat → List Int
  | 0 => blockOf []
  | i + 1 => if onM (ms.getD i 0) k = true then blockOf (ws.getD i []) else wantTo ws ms k i
theorem tears_len (ws : List (List Int)) (ms : List Int) : ∀ i, (tearsTo ws ms i).length = 256
  | 0 => zblock_len
  | i + 1 => tornTo_len _ _ _ (tears_len ws ms i) (block_len _) 4 (Nat.le_refl _)
theorem want_len (ws : List (List Int)) (ms : List Int) (k : Nat) : ∀ i, (wantTo ws ms k i).length = 256
  | 0 => block_len _
  | i + 1 => by
    unfold wantTo
    split
    · exact block_len _
    · exact want_len ws ms k i
theorem sec_want (ws : List (List Int)) (ms : List Int) (k : Nat) (hk : k < 4) : ∀ i, sec k (tearsTo ws ms i) = sec k (wantTo ws ms k i)
  | 0 => by
    have : zblock = blockOf [] := by unfold blockOf; rfl
    show sec k zblock = sec k (blockOf [])
    rw [this]
  | i + 1 => by
    have ih := sec_want ws ms k hk i
    unfold tearsTo wantTo
    rw [sec_torn _ _ _ (tears_len ws ms i) (block_len _) k hk, ih]
    split <;> rfl
/-- The disk behind the writes. -/
def tD (n : Int) (ws : List (List Int)) : Dk := { blankD 16 with waits := ws.map (fun b => (n, blockOf b)), writes := ws.length }
theorem tD_nil (n : Int) : tD n [] = blankD 16 := rfl
theorem tD_ready (n : Int) (ws : List (List Int)) (hn : 0 ≤ n ∧ n ≤ 15) : ready (tD n ws) n = 0 := by
  unfold ready
  rw [if_neg (by show ¬ (false = true); simp), if_neg]
  show ¬ (n < 0 ∨ ((zeros 16).length : Int) ≤ n)
  rw [zeros_size]
  omega
theorem tD_next (n : Int) (ws : List (List Int)) (b : List Int) (hn : 0 ≤ n ∧ n ≤ 15) (hl : ws.length ≤ 20) : writeD (tD n ws) n (blockOf b) = (tD n (ws ++ [b]), 0) := by
  unfold writeD
  rw [tD_ready n ws hn, if_neg (by simp), if_neg (by rw [block_len]; simp), if_neg (by show ¬ ((-1 : Int) = 0); omega)]
  have hw : wrap64 ((tD n ws).writes + 1) = (ws.length : Int) + 1 := wrap_id ((ws.length : Int) + 1) (by omega) (by omega)
  rw [hw]
  unfold deedD
  rw [if_neg (by show ¬ ((-1 : Int) = 0); omega)]
  have hm : max ((-1 : Int) - 1) (-1) = -1 := by decide
  have h1 : (ws ++ [b]).map (fun b => (n, blockOf b)) = ws.map (fun b => (n, blockOf b)) ++ [(n, blockOf b)] := by rw [List.map_append]; rfl
  have h2 : ((ws ++ [b]).length : Int) = (ws.length : Int) + 1 := by rw [List.length_append]; rfl
  unfold tD waitD blankD
  simp only [h1, h2, hm]
theorem tears_safe (n : Int) (ws : List (List Int)) (ms : List Int) (hn : 0 ≤ n ∧ n ≤ 15) : ∀ i, i ≤ ws.length → i ≤ ms.length → (crashTo (tD n ws) ((tD n ws).waits.take i) (ms.take i)).safe = (zeros 16).set n.toNat (tearsTo ws ms i)
  | 0, _, _ => by
    show (zeros 16) = (zeros 16).set n.toNat zblock
    have hlt : n.toNat < (zeros 16).length := by rw [zeros_size]; omega
    have : (zeros 16)[n.toNat] = zblock := by unfold zeros; exact List.getElem_replicate _
    rw [← this, List.set_getElem_self]
  | i + 1, h1, h2 => by
    have ih := tears_safe n ws ms hn i (by omega) (by omega)
    have hwl : (tD n ws).waits.length = ws.length := by simp [tD]
    rw [crashTo_next _ _ _ i (by omega) (by omega)]
    have e : (tD n ws).waits[i]'(by omega) = (n, blockOf ws[i]) := by simp [tD]
    rw [e]
    show ((crashTo (tD n ws) ((tD n ws).waits.take i) (ms.take i)).safe.set n.toNat (tornTo (onM ms[i]) ((crashTo (tD n ws) ((tD n ws).waits.take i) (ms.take i)).safe.getD n.toNat []) (blockOf ws[i]) 4)) = _
    rw [ih, List.set_set]
    have hlt : n.toNat < (zeros 16).length := by rw [zeros_size]; omega
    have hg : ((zeros 16).set n.toNat (tearsTo ws ms i)).getD n.toNat [] = tearsTo ws ms i := by simp [List.getD_eq_getElem?_getD, hlt]
    rw [hg]
    have e1 : ms.getD i 0 = ms[i] := by simp [List.getD_eq_getElem?_getD, show i < ms.length by omega]
    have e2 : ws.getD i [] = ws[i] := by simp [List.getD_eq_getElem?_getD, show i < ws.length by omega]
    rw [show tearsTo ws ms (i + 1) = tornTo (onM (ms.getD i 0)) (tearsTo ws ms i) (blockOf (ws.getD i [])) 4 from rfl, e1, e2]
theorem tears_now (n : Int) (ws : List (List Int)) (ms : List Int) (hn : 0 ≤ n ∧ n ≤ 15) : nowD (crashD (tD n ws) ms) n = tearsTo ws ms (min ws.length ms.length) := by
  have hwl : (tD n ws).waits.length = ws.length := by simp [tD]
  have h := tears_safe n ws ms hn (min ws.length ms.length) (by omega) (by omega)
  rw [crashTo_all _ _ _ _ (by rw [hwl])] at h
  unfold nowD
  show ((crashTo (tD n ws) (tD n ws).waits ms).safe.getD n.toNat []) = _
  rw [h]
  have hlt : n.toNat < (zeros 16).length := by rw [zeros_size]; omega
  simp [List.getD_eq_getElem?_getD, hlt]
theorem tears_ready (n : Int) (ws : List (List Int)) (ms : List Int) (hn : 0 ≤ n ∧ n ≤ 15) : ready (crashD (tD n ws) ms) n = 0 := by
  unfold ready
  rw [if_neg (by show ¬ (false = true); simp), if_neg]
  show ¬ (n < 0 ∨ ((crashTo (tD n ws) (tD n ws).waits ms).safe.length : Int) ≤ n)
  rw [(crashTo_safe _ _ _).1]
  show ¬ (n < 0 ∨ ((zeros 16).length : Int) ≤ n)
  rw [zeros_size]
  omega
end Disk
end Go.Proofs.Ytooemgcijbdilaa
