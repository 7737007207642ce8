/- The plain law of the room: sizes, cells, what is enough; no program in sight but for the printed functions. -/
import Derived.Test.YtbcifbogmjfpoaaPRoomTellsx
namespace Go.Proofs.Ytbcifbogmjfpoaa
open Go.RowKit Go.Proofs.YtbcifbogmjfpoaaW.PrintWords Go.Proofs.YtbcifbogmjfpoaaW.PrintLast Go.Proofs.YtbcifbogmjfpoaaW.PrintMore
open PRoomTells
namespace Room

def segGo : Int → List Int → Int
  | acc, [] => acc
  | acc, s :: ss => if s < 1 ∨ 65535 < s then 0 else if 262144 < acc + s + 43 then 0 else segGo (acc + s + 43) ss
def segSize (l : List Int) : Int := if l = [] ∨ 4096 < l.length then 0 else segGo 12 l
def need (n : Int) : Int := if n ≤ 0 then 0 else (n - 1) / 242 + 1
def cells (l : List Int) : Int := need (segSize l)
def may (b : Int) : Bool := decide (16 ≤ b) && decide (b ≤ 1024)
def twice : List Int → Int → Bool
  | [], left => decide (0 ≤ left)
  | n :: ns, left => if n > left then false else if n > left - n then false else twice ns (left - n - n)
theorem twice_cons (n : Int) (ns : List Int) (l : Int) : twice (n :: ns) l = if n > l then false else if n > l - n then false else twice ns (l - n - n) := rfl
def enough (b : Int) (l : List Int) (s : Int) : Bool :=
  may b && decide (0 ≤ s) && !(decide (0 < l.length) && cells l == 0) && twice [cells l, s, 1, 8] (b - (4 + b / 8))

theorem segGo_cons (acc s : Int) (ss : List Int) : segGo acc (s :: ss) = if s < 1 ∨ 65535 < s then 0 else if 262144 < acc + s + 43 then 0 else segGo (acc + s + 43) ss := rfl
theorem segGo_bd (l : List Int) : ∀ acc, 0 ≤ acc → acc ≤ 262144 → 0 ≤ segGo acc l ∧ segGo acc l ≤ 262144 := by
  induction l with
  | nil => exact fun acc h0 h => ⟨h0, h⟩
  | cons s ss ih =>
    intro acc h0 h
    rw [segGo_cons]
    split
    · omega
    · split
      · omega
      · exact ih _ (by omega) (by omega)
theorem segSize_bd (l : List Int) : 0 ≤ segSize l ∧ segSize l ≤ 262144 := by
  unfold segSize
  split
  · omega
  · exact segGo_bd l 12 (by omega) (by omega)
theorem cells_bd (l : List Int) : 0 ≤ cells l ∧ cells l ≤ 1084 := by
  have := segSize_bd l
  unfold cells need
  split <;> omega

/-! what the printed ones are -/
theorem may_f (b : Int) : room_may.f b = some (may b) := by
  unfold room_may.f may
  split <;> rename_i h
  · rw [decide_eq_true (show 16 ≤ b from h)]; rfl
  · rw [decide_eq_false (show ¬ 16 ≤ b from h)]; rfl
theorem rmay_f (b : Int) : chantryref30_may.f b = some (may b) := by
  unfold chantryref30_may.f may
  split <;> rename_i h
  · rw [decide_eq_true (show 16 ≤ b from h)]; rfl
  · rw [decide_eq_false (show ¬ 16 ≤ b from h)]; rfl
def log (b : Int) : Int := if may b then 2 + b / 8 else 0
def data (b : Int) : Int := if may b then 4 + b / 8 else 0
theorem may_bd {b : Int} (h : may b = true) : 16 ≤ b ∧ b ≤ 1024 := by simpa [may] using h
theorem wrap_in {n : Int} (h0 : -9223372036854775808 ≤ n) (h1 : n ≤ 9223372036854775807) : wrap64 n = n := by unfold wrap64; omega
theorem tdiv8 {b : Int} (h : 0 ≤ b) : Int.tdiv b 8 = b / 8 := Int.tdiv_eq_ediv_of_nonneg h
theorem log_f (b : Int) : room_Log.f b = some (log b) := by
  unfold room_Log.f log
  rw [may_f, Option.bind_some]
  split <;> rename_i h
  · have := may_bd h
    rw [tdiv8 (by omega), wrap_in (n := b / 8) (by omega) (by omega), wrap_in (n := 2 + b / 8) (by omega) (by omega)]
  · rfl
theorem rlog_f (b : Int) : chantryref30_Log.f b = some (log b) := by
  unfold chantryref30_Log.f log
  rw [rmay_f, Option.bind_some]
  split <;> rename_i h
  · have := may_bd h
    rw [tdiv8 (by omega), wrap_in (n := b / 8) (by omega) (by omega), wrap_in (n := 2 + b / 8) (by omega) (by omega)]
  · rfl
theorem data_f (b : Int) : room_Data.f b = some (data b) := by
  unfold room_Data.f data
  rw [may_f, Option.bind_some]
  split <;> rename_i h
  · have := may_bd h
    rw [log_f, Option.bind_some, log, if_pos h, wrap_in (by omega) (by omega)]
    congr 1; omega
  · rfl
theorem rdata_f (b : Int) : chantryref30_Data.f b = some (data b) := by
  unfold chantryref30_Data.f data
  rw [rmay_f, Option.bind_some]
  split <;> rename_i h
  · have := may_bd h
    rw [rlog_f, Option.bind_some, log, if_pos h, wrap_in (by omega) (by omega)]
    congr 1; omega
  · rfl
theorem log_bd (b : Int) : 0 ≤ log b ∧ log b ≤ 130 := by
  unfold log
  split <;> rename_i h
  · have := may_bd h; omega
  · omega
theorem sectors_f (b : Int) : room_Sectors.f b = some (4 * log b) := by
  unfold room_Sectors.f
  have := log_bd b
  rw [log_f, Option.bind_some, wrap_in (by omega) (by omega)]
  congr 1; omega
theorem rsectors_f (b : Int) : chantryref30_Sectors.f b = some (4 * log b) := by
  unfold chantryref30_Sectors.f
  have := log_bd b
  rw [rlog_f, Option.bind_some, wrap_in (by omega) (by omega)]
theorem need_f (n : Int) (h0 : -1000000 ≤ n) (h : n ≤ 1000000) : cell_Need.f n = some (need n) := by
  unfold cell_Need.f need
  split
  · rfl
  · rw [wrap_in (n := n - 1) (by omega) (by omega), Int.tdiv_eq_ediv_of_nonneg (by omega), wrap_in (n := (n - 1) / 242) (by omega) (by omega), wrap_in (n := (n - 1) / 242 + 1) (by omega) (by omega)]
theorem rneed_f (n : Int) (h0 : -1000000 ≤ n) (h : n ≤ 1000000) : chantryref09_Need.f n = some (need n) := by
  unfold chantryref09_Need.f need
  split
  · rfl
  · rw [wrap_in (n := n - 1) (by omega) (by omega), Int.tdiv_eq_ediv_of_nonneg (by omega), wrap_in (n := (n - 1) / 242) (by omega) (by omega), wrap_in (n := (n - 1) / 242 + 1) (by omega) (by omega)]
theorem man_f (n : Int) (b : Bool) : room_Manifest.f n b = chantryref30_Manifest.f n := rfl
theorem man_some (n : Int) : ∃ r, chantryref30_Manifest.f n = some r := by
  unfold chantryref30_Manifest.f
  split
  · exact ⟨_, rfl⟩
  · split <;> exact ⟨_, rfl⟩
theorem frame_f (s : Int) : frame_Size.f s = some (if s < 1 ∨ 65535 < s then 0 else s + 6) := by
  unfold frame_Size.f
  split
  · rw [if_pos (by omega)]
  · split
    · rw [if_pos (by omega)]
    · rw [if_neg (by omega), wrap_in (n := 2 + s) (by omega) (by omega), wrap_in (by omega) (by omega)]
      congr 1; omega
theorem rframe_f (s : Int) : chantryref26_Size.f s = some (if s < 1 ∨ 65535 < s then 0 else s + 6) := by
  unfold chantryref26_Size.f
  split
  · rw [if_pos (by omega)]
  · split
    · rw [if_pos (by omega)]
    · rw [if_neg (by omega), wrap_in (by omega) (by omega)]

theorem drop_rd (l : List Int) (i : Nat) (h : i < l.length) : l.drop i = rd l i :: l.drop (i + 1) := by
  rw [List.drop_eq_getElem_cons h]
  congr 1
  simp [rd, List.getD_eq_getElem?_getD, h]

theorem seg_l0 (l : List Int) (hl : l.length ≤ 4096) (d : Nat) : ∀ (k i : Nat) (acc : Int), i + d = l.length → d < k → 0 ≤ acc → acc ≤ 262144 →
    segment_Size.l0 k acc l l.length i = some (segGo acc (l.drop i)) := by
  induction d with
  | zero =>
    intro k i acc hi hk h0 h1
    obtain ⟨k, rfl⟩ : ∃ m, k = m + 1 := ⟨k - 1, by omega⟩
    simp only [segment_Size.l0]
    rw [if_neg (by omega), List.drop_eq_nil_of_le (by omega)]
    rfl
  | succ d ih =>
    intro k i acc hi hk h0 h1
    obtain ⟨k, rfl⟩ : ∃ m, k = m + 1 := ⟨k - 1, by omega⟩
    simp only [segment_Size.l0]
    rw [if_pos (by omega), if_pos (by omega), if_pos (by omega), frame_f, Option.bind_some, drop_rd l i (by omega), segGo_cons]
    by_cases hb : rd l i < 1 ∨ 65535 < rd l i
    · rw [if_pos hb, if_pos hb]; rfl
    · rw [if_neg hb, if_neg hb, if_neg (by omega)]
      rw [wrap_in (n := rd l i + 6 + 36) (by omega) (by omega), wrap_in (n := rd l i + 6 + 36 + 1) (by omega) (by omega), wrap_in (n := acc + (rd l i + 6 + 36 + 1)) (by omega) (by omega),
        show acc + (rd l i + 6 + 36 + 1) = acc + rd l i + 43 by omega]
      by_cases hg : 262144 < acc + rd l i + 43
      · rw [if_pos (show acc + rd l i + 43 > 262144 from hg), if_pos hg]
      · rw [if_neg (show ¬ acc + rd l i + 43 > 262144 from hg), if_neg hg, wrap_in (n := (i : Int) + 1) (by omega) (by omega), show ((i : Int) + 1) = ((i + 1 : Nat) : Int) by omega]
        exact ih k (i + 1) _ (by omega) (by omega) (by omega) (by omega)
theorem seg_f (l : List Int) (hl : l.length ≤ 4096) : segment_Size.f (l.length + 2) l = some (segSize l) := by
  unfold segment_Size.f segSize
  by_cases h : l = []
  · subst h
    rfl
  · have h0 : ¬ (l.length : Int) = 0 := by
      have := List.length_pos_iff.2 h
      omega
    rw [if_neg h0, if_neg (by simp [h]; omega)]
    rw [decide_eq_false (by omega)]
    simp only [segment_Size.j0]
    rw [if_neg (by simp)]
    have := seg_l0 l hl l.length (l.length + 1) 0 12 (by omega) (by omega) (by omega) (by omega)
    simpa using this
theorem rseg_l0 (l : List Int) (hl : l.length ≤ 4096) (d : Nat) : ∀ (k i : Nat) (acc : Int), i + d = l.length → d < k → 0 ≤ acc → acc ≤ 66000 * i → (0 < acc ∨ 0 < d) →
    chantryref28_Size.l0 k l acc i = some (if 262144 < acc + 12 then 0 else segGo (acc + 12) (l.drop i)) := by
  induction d with
  | zero =>
    intro k i acc hi hk h0 h1 h2
    obtain ⟨k, rfl⟩ : ∃ m, k = m + 1 := ⟨k - 1, by omega⟩
    simp only [chantryref28_Size.l0]
    rw [if_neg (by omega), List.drop_eq_nil_of_le (by omega), if_neg (by omega), wrap_in (by omega) (by omega)]
    simp only [segGo]
    split <;> simp_all
  | succ d ih =>
    intro k i acc hi hk h0 h1 h2
    obtain ⟨k, rfl⟩ : ∃ m, k = m + 1 := ⟨k - 1, by omega⟩
    simp only [chantryref28_Size.l0]
    rw [if_pos (by omega), if_pos (by omega), rframe_f, Option.bind_some, drop_rd l i (by omega), segGo_cons]
    by_cases hb : rd l i < 1 ∨ 65535 < rd l i
    · rw [if_pos hb, if_pos hb]; simp
    · rw [if_neg hb, if_neg hb, if_neg (by omega), if_neg (by omega)]
      rw [wrap_in (n := acc + (rd l i + 6)) (by omega) (by omega), wrap_in (n := acc + (rd l i + 6) + 37) (by omega) (by omega), wrap_in (n := (i : Int) + 1) (by omega) (by omega), show ((i : Int) + 1) = ((i + 1 : Nat) : Int) by omega]
      rw [ih k (i + 1) _ (by omega) (by omega) (by omega) (by omega) (by omega)]
      rw [show acc + (rd l i + 6) + 37 + 12 = acc + 12 + rd l i + 43 by omega]
      by_cases hg : 262144 < acc + 12 + rd l i + 43
      · rw [if_pos hg]; split <;> simp
      · rw [if_neg hg, if_neg (by omega)]
theorem rseg_f (l : List Int) (hl : l.length ≤ 4096) : chantryref28_Size.f (l.length + 2) l = some (segSize l) := by
  unfold chantryref28_Size.f segSize
  by_cases h : l = []
  · subst h
    rfl
  · have h0 := List.length_pos_iff.2 h
    rw [if_neg (by simp [h]; omega)]
    have := rseg_l0 l hl l.length (l.length + 2) 0 0 (by omega) (by omega) (by omega) (by omega) (by omega)
    simpa using this
theorem cells_f (l : List Int) (hl : l.length ≤ 4096) : room_Cells.f (l.length + 2) l = some (cells l) := by
  have := segSize_bd l
  unfold room_Cells.f
  rw [seg_f l hl, Option.bind_some, need_f _ (by omega) (by omega)]
  rfl
theorem rcells_f (l : List Int) (hl : l.length ≤ 4096) : chantryref30_Cells.f (l.length + 2) l = some (cells l) := by
  have := segSize_bd l
  unfold chantryref30_Cells.f
  rw [rseg_f l hl, Option.bind_some, rneed_f _ (by omega) (by omega)]
  rfl

theorem twice4 (a b L : Int) (ha : 0 ≤ a) (hb : 0 ≤ b) : twice [a, b, 1, 8] L = decide (2 * a + 2 * b + 18 ≤ L) := by
  simp only [twice_cons, show twice [] (L - a - a - b - b - 1 - 1 - 8 - 8) = decide (0 ≤ L - a - a - b - b - 1 - 1 - 8 - 8) from rfl]
  repeat' split
  all_goals simp only [Bool.false_eq, decide_eq_false_iff_not, decide_eq_decide]
  all_goals omega
theorem renough_f (b : Int) (l : List Int) (s : Int) (hl : l.length ≤ 4096) (hs : s ≤ 9223372036854775807) (hb : (-9223372036854775808 : Int) ≤ b ∧ b ≤ 9223372036854775807) : chantryref30_Enough.f (l.length + 2) b l s = some (enough b l s) := by
  unfold chantryref30_Enough.f enough
  have hc := cells_bd l
  rw [rcells_f l hl, Option.bind_some, rmay_f, Option.bind_some]
  by_cases hm : may b = true
  · have hmb := may_bd hm
    rw [if_pos hm, hm, rdata_f, data, if_pos hm]
    simp only [Option.bind_some]
    rw [wrap_in (n := b - (4 + b / 8)) (by omega) (by omega)]
    have key : 0 ≤ s → (if s ≤ b - (4 + b / 8) then some (decide (wrap64 (wrap64 (wrap64 (wrap64 (2 * cells l) + wrap64 (2 * s)) + 2) + 16) ≤ b - (4 + b / 8))) else some false) = some (twice [cells l, s, 1, 8] (b - (4 + b / 8))) := by
      intro h0
      rw [twice4 _ _ _ hc.1 h0]
      split
      · rw [wrap_in (n := 2 * cells l) (by omega) (by omega), wrap_in (n := 2 * s) (by omega) (by omega), wrap_in (n := 2 * cells l + 2 * s) (by omega) (by omega), wrap_in (n := 2 * cells l + 2 * s + 2) (by omega) (by omega), wrap_in (by omega) (by omega)]
        congr 2; apply propext; omega
      · rw [decide_eq_false (by omega)]
    by_cases h0 : 0 < l.length
    · rw [if_pos (by omega)]
      by_cases hz : cells l = 0
      · rw [if_pos hz]; simp [h0, hz]
      · rw [if_neg hz]
        by_cases hsn : s < 0
        · rw [if_pos hsn]; simp [show ¬ 0 ≤ s by omega]
        · rw [if_neg hsn, key (by omega)]
          simp [h0, hz, show 0 ≤ s by omega]
    · rw [if_neg (by omega)]
      by_cases hsn : s < 0
      · rw [if_pos hsn]; simp [show ¬ 0 ≤ s by omega]
      · rw [if_neg hsn, key (by omega)]
        simp [h0, show 0 ≤ s by omega]
  · rw [if_neg hm]
    simp [hm]

/-! fewer -/
theorem segGo_take (l : List Int) : ∀ (n : Nat) (acc : Int), 0 < acc → acc ≤ 262144 → segGo acc l ≠ 0 → segGo acc (l.take n) ≠ 0 ∧ segGo acc (l.take n) ≤ segGo acc l := by
  induction l with
  | nil => intro n acc h0 h1 h; simp only [List.take_nil]; exact ⟨h, Int.le_refl _⟩
  | cons s ss ih =>
    intro n acc h0 h1 h
    rw [segGo_cons] at h
    have h2 : ¬ (s < 1 ∨ 65535 < s) := fun hc => h (by rw [if_pos hc])
    rw [if_neg h2] at h
    have h3 : ¬ (262144 < acc + s + 43) := fun hc => h (by rw [if_pos hc])
    rw [if_neg h3] at h
    cases n with
    | zero =>
      simp only [List.take_zero]
      rw [segGo_cons, if_neg h2, if_neg h3]
      refine ⟨show acc ≠ 0 by omega, ?_⟩
      have := (ih 0 (acc + s + 43) (by omega) (by omega) h).2
      simp only [List.take_zero, segGo] at this ⊢
      omega
    | succ n =>
      rw [List.take_succ_cons, segGo_cons, segGo_cons, if_neg h2, if_neg h3, if_neg h2, if_neg h3]
      exact ih n _ (by omega) (by omega) h
theorem need_mono {a b : Int} (h : a ≤ b) : need a ≤ need b := by
  unfold need
  split
  · split <;> omega
  · split <;> omega
theorem need_ne {a : Int} (h : 0 < a) : need a ≠ 0 := by
  unfold need
  rw [if_neg (by omega)]
  omega
theorem fewer (b : Int) (l : List Int) (n : Nat) (s t : Int) (ht : 0 ≤ t) (hst : t ≤ s) (hn : n ≤ l.length) (h : enough b l s = true) : enough b (l.take n) t = true := by
  simp only [enough, Bool.and_eq_true, decide_eq_true_eq, Bool.not_eq_true'] at h
  obtain ⟨⟨⟨hm, hs⟩, hc⟩, htw⟩ := h
  have hc1 := cells_bd l
  have hc2 := cells_bd (l.take n)
  have hcc : cells (l.take n) ≤ cells l ∧ (0 < (l.take n).length → cells (l.take n) ≠ 0) := by
    by_cases hl : l = []
    · subst hl; simp
    · have hlen := List.length_pos_iff.2 hl
      have hz : cells l ≠ 0 := by
        intro hz
        simp [hlen, hz] at hc
      have hne : segSize l ≠ 0 := by
        intro he
        apply hz
        unfold cells
        rw [he]; rfl
      by_cases hn0 : n = 0
      · subst hn0
        simp only [List.take_zero]
        refine ⟨?_, by simp⟩
        have : cells [] = 0 := by rfl
        omega
      · have hlt : 0 < (l.take n).length := by rw [List.length_take]; omega
        have hne2 : ¬ (l = [] ∨ 4096 < l.length) := by
          intro hx
          apply hne
          unfold segSize
          rw [if_pos hx]
        have hg : segGo 12 l ≠ 0 := by
          intro he
          apply hne
          unfold segSize
          rw [if_neg hne2, he]
        have hx : segSize (l.take n) = segGo 12 (l.take n) := by
          unfold segSize
          rw [if_neg]
          simp only [List.length_take]
          intro hx
          rcases hx with hx | hx
          · rw [hx] at hlt; simp at hlt
          · omega
        have hy : segSize l = segGo 12 l := by
          unfold segSize
          rw [if_neg hne2]
        have ht := segGo_take l n 12 (by omega) (by omega) hg
        have hb := segSize_bd (l.take n)
        unfold cells
        rw [hx, hy]
        rw [hx] at hb
        exact ⟨need_mono ht.2, fun _ => need_ne (by omega)⟩
  simp only [enough, Bool.and_eq_true, decide_eq_true_eq, Bool.not_eq_true']
  refine ⟨⟨⟨hm, ht⟩, ?_⟩, ?_⟩
  · by_cases hp : 0 < (l.take n).length
    · simp [hcc.2 hp]
    · rw [decide_eq_false hp]; rfl
  · rw [twice4 _ _ _ hc1.1 hs, decide_eq_true_eq] at htw
    rw [twice4 _ _ _ hc2.1 ht, decide_eq_true_eq]
    omega
end Room
end Go.Proofs.Ytbcifbogmjfpoaa
