/- Blocks that are taken, as a list of yes and no: the plain law of the pool. -/
import Derived.Test.YthmdpmpnlphfdaaBp
namespace Go.Pool
open Go.Bits
theorem both_len (l : List Bool) (n : Nat) : ∀ p, l.length - p = n → (listAt l true p).length + (listAt l false p).length = n := by
  induction n with
  | zero => intro p hp; rw [list_end (by omega), list_end (by omega)]; rfl
  | succ n ih =>
    intro p hp
    have := ih (p + 1) (by omega)
    cases hb : l.getD p false
    · rw [list_miss (b := true) (i := p) (fun _ => by rw [hb]; decide), list_hit (b := false) (by omega) hb, List.length_cons]
      omega
    · rw [list_miss (b := false) (i := p) (fun _ => by rw [hb]; decide), list_hit (b := true) (by omega) hb, List.length_cons]
      omega
/-- Those that are free. -/
def gaps (l : List Bool) : List Int := listAt l false 0
theorem gaps_len (l : List Bool) : (listL l).length + (gaps l).length = l.length := both_len l l.length 0 (by omega)
/-- All these set. -/
def setAll (l : List Bool) (xs : List Int) (b : Bool) : List Bool := xs.foldl (fun l i => l.set i.toNat b) l
theorem setAll_nil (l : List Bool) (b : Bool) : setAll l [] b = l := rfl
theorem setAll_cons (l : List Bool) (x : Int) (xs : List Int) (b : Bool) : setAll l (x :: xs) b = setAll (l.set x.toNat b) xs b := rfl
theorem setAll_snoc (l : List Bool) (xs : List Int) (x : Int) (b : Bool) : setAll l (xs ++ [x]) b = (setAll l xs b).set x.toNat b := by simp [setAll]
theorem setAll_len (b : Bool) : ∀ (xs : List Int) (l : List Bool), (setAll l xs b).length = l.length
  | [], _ => rfl
  | x :: xs, l => by rw [setAll_cons, setAll_len b xs]; simp
/-- Numbers of the list's. -/
def In (l : List Bool) (x : Int) : Prop := 0 ≤ x ∧ x < l.length
instance (l : List Bool) (x : Int) : Decidable (In l x) := by unfold In; infer_instance
theorem getD_set (l : List Bool) (i j : Nat) (b : Bool) (h : i < l.length) : (l.set i b).getD j false = if i = j then b else l.getD j false := getD_set_eq l i j b false h
theorem setAll_get (b : Bool) : ∀ (xs : List Int) (l : List Bool) (j : Nat), (∀ x ∈ xs, In l x) → (setAll l xs b).getD j false = if (j : Int) ∈ xs then b else l.getD j false
  | [], l, j, _ => by simp [setAll_nil]
  | x :: xs, l, j, h => by
    have hx := h x List.mem_cons_self
    rw [setAll_cons, setAll_get b xs _ j (fun y hy => by
      have := h y (List.mem_cons_of_mem _ hy)
      unfold In at this ⊢
      simpa using this)]
    unfold In at hx
    rw [getD_set l _ _ _ (by omega)]
    by_cases h1 : (j : Int) ∈ xs
    · simp [h1]
    · by_cases h2 : (j : Int) = x
      · simp [h2]
        intro h3
        omega
      · have h3 : ¬ x.toNat = j := by omega
        simp [h1, h2, h3]
theorem ext_get {l k : List Bool} (h : l.length = k.length) (hg : ∀ j, j < l.length → l.getD j false = k.getD j false) : l = k := by
  refine List.ext_getElem h fun i h1 h2 => ?_
  have := hg i h1
  simpa [List.getD_eq_getElem?_getD, List.getElem?_eq_getElem h1, List.getElem?_eq_getElem h2] using this
/-- One by one: each must be as it should be. -/
def seq (was : Bool) : List Bool → List Int → Option (List Bool)
  | l, [] => some l
  | l, x :: xs => if l.getD x.toNat false = was then seq was (l.set x.toNat (!was)) xs else none
/-- It goes if each is as it should be, and none is there twice. -/
theorem seq_eq (was : Bool) : ∀ (xs : List Int) (l : List Bool), (∀ x ∈ xs, In l x) → seq was l xs = if (∀ x ∈ xs, l.getD x.toNat false = was) ∧ xs.Nodup then some (setAll l xs (!was)) else none
  | [], l, _ => by simp [seq, setAll_nil]
  | x :: xs, l, h => by
    have hx := h x List.mem_cons_self
    unfold In at hx
    have hs : ∀ y ∈ xs, In (l.set x.toNat (!was)) y := fun y hy => by
      have := h y (List.mem_cons_of_mem _ hy)
      unfold In at this ⊢
      simpa using this
    rw [seq, seq_eq was xs _ hs]
    by_cases hw : l.getD x.toNat false = was
    · rw [if_pos hw, setAll_cons]
      have key : ((∀ y ∈ xs, (l.set x.toNat (!was)).getD y.toNat false = was) ∧ xs.Nodup) ↔ ((∀ y ∈ x :: xs, l.getD y.toNat false = was) ∧ (x :: xs).Nodup) := by
        have sm : ∀ y ∈ xs, 0 ≤ y → x.toNat = y.toNat → x ∈ xs := fun y hy h0 he => by
          have : x = y := by omega
          rw [this]; exact hy
        rw [List.nodup_cons]
        constructor
        · rintro ⟨h1, h2⟩
          have hn : x ∉ xs := fun hm => by
            have := h1 x hm
            rw [getD_set _ _ _ _ (by omega), if_pos rfl] at this
            cases was <;> simp at this
          refine ⟨fun y hy => ?_, hn, h2⟩
          rcases List.mem_cons.1 hy with rfl | hy
          · exact hw
          · have h3 := h1 y hy
            have hyi := h y (List.mem_cons_of_mem _ hy)
            unfold In at hyi
            rw [getD_set _ _ _ _ (by omega), if_neg (fun e => hn (sm y hy hyi.1 e))] at h3
            exact h3
        · rintro ⟨h1, hn, h2⟩
          refine ⟨fun y hy => ?_, h2⟩
          have hyi := h y (List.mem_cons_of_mem _ hy)
          unfold In at hyi
          rw [getD_set _ _ _ _ (by omega), if_neg (fun e => hn (sm y hy hyi.1 e))]
          exact h1 y (List.mem_cons_of_mem _ hy)
      by_cases hk : ((∀ y ∈ xs, (l.set x.toNat (!was)).getD y.toNat false = was) ∧ xs.Nodup)
      · rw [if_pos hk, if_pos (key.1 hk)]
      · rw [if_neg hk, if_neg (fun h => hk (key.2 h))]
    · rw [if_neg hw, if_neg (fun h => hw (h.1 x List.mem_cons_self))]
/-- Turned back again. -/
theorem setAll_back (was : Bool) (l : List Bool) (xs : List Int) (h : ∀ x ∈ xs, In l x) (hw : ∀ x ∈ xs, l.getD x.toNat false = was) : setAll (setAll l xs (!was)) xs was = l := by
  refine ext_get (by rw [setAll_len, setAll_len]) fun j _ => ?_
  rw [setAll_get _ _ _ _ (fun x hx => by have := h x hx; unfold In at this ⊢; rwa [setAll_len]), setAll_get _ _ _ _ h]
  split
  · rename_i hm
    have := hw _ hm
    simpa using this.symm
  · rfl
/-- Blocks turned: what is answered, and what is there then. -/
def turnAll (fr : Int) (l : List Bool) (xs : List Int) (was : Bool) (e : Int) : List Bool × Int :=
  if ∃ x ∈ xs, ¬ In l (x - fr) then (l, 10) else if (∀ x ∈ xs, l.getD (x - fr).toNat false = was) ∧ xs.Nodup then (setAll l (xs.map (· - fr)) (!was), 0) else (l, e)
def takeAll (fr : Int) (l : List Bool) (n : Int) : List Bool × List Int × Int :=
  if n < 0 then (l, [], 1) else if (gaps l).length < n then (l, [], 2) else (setAll l ((gaps l).take n.toNat) true, ((gaps l).take n.toNat).map (fr + ·), 0)
/-- What is there from a place on does not see what lies before it. -/
theorem list_agree {l k : List Bool} {b : Bool} (hl : l.length = k.length) (n : Nat) : ∀ p, l.length - p = n → (∀ j, p ≤ j → l.getD j false = k.getD j false) → listAt l b p = listAt k b p := by
  induction n with
  | zero => intro p hp _; rw [list_end (by omega), list_end (by omega)]
  | succ n ih =>
    intro p hp h
    have hr := ih (p + 1) (by omega) (fun j hj => h j (by omega))
    by_cases hb : l.getD p false = b
    · have hb2 : k.getD p false = b := by rw [← h p (Nat.le_refl _)]; exact hb
      rw [list_hit (by omega) hb, list_hit (l := k) (i := p) (by omega) hb2, hr]
    · rw [list_miss fun _ => hb, list_miss (l := k) (i := p) fun _ => by rw [← h p (Nat.le_refl _)]; exact hb, hr]
theorem first_agree {l k : List Bool} {b : Bool} (hl : l.length = k.length) (n : Nat) : ∀ p, l.length - p = n → (∀ j, p ≤ j → l.getD j false = k.getD j false) → firstAt l b p = firstAt k b p := by
  induction n with
  | zero => intro p hp _; rw [first_end (by omega), first_end (by omega)]
  | succ n ih =>
    intro p hp h
    have hr := ih (p + 1) (by omega) (fun j hj => h j (by omega))
    by_cases hb : l.getD p false = b
    · have hb2 : k.getD p false = b := by rw [← h p (Nat.le_refl _)]; exact hb
      rw [first_hit (by omega) hb, first_hit (l := k) (i := p) (by omega) hb2]
    · rw [first_miss fun _ => hb, first_miss (l := k) (i := p) fun _ => by rw [← h p (Nat.le_refl _)]; exact hb, hr]
/-- Each that is listed is one of the list's, as it is asked, and from the place on. -/
theorem list_in {l : List Bool} {b : Bool} (n : Nat) : ∀ p, l.length - p = n → ∀ x ∈ listAt l b p, (p : Int) ≤ x ∧ In l x ∧ l.getD x.toNat false = b := by
  induction n with
  | zero => intro p hp x hx; rw [list_end (by omega)] at hx; simp at hx
  | succ n ih =>
    intro p hp x hx
    by_cases hb : l.getD p false = b
    · rw [list_hit (by omega) hb] at hx
      rcases List.mem_cons.1 hx with rfl | hx
      · refine ⟨Int.le_refl _, ⟨by omega, by omega⟩, by simpa using hb⟩
      · obtain ⟨h1, h2, h3⟩ := ih (p + 1) (by omega) x hx
        exact ⟨by omega, h2, h3⟩
    · rw [list_miss fun _ => hb] at hx
      obtain ⟨h1, h2, h3⟩ := ih (p + 1) (by omega) x hx
      exact ⟨by omega, h2, h3⟩
theorem list_nodup {l : List Bool} {b : Bool} (n : Nat) : ∀ p, l.length - p = n → (listAt l b p).Nodup := by
  induction n with
  | zero => intro p hp; rw [list_end (by omega)]; exact List.nodup_nil
  | succ n ih =>
    intro p hp
    by_cases hb : l.getD p false = b
    · rw [list_hit (by omega) hb, List.nodup_cons]
      refine ⟨fun hm => ?_, ih (p + 1) (by omega)⟩
      have := (list_in (n) (p + 1) (by omega) _ hm).1
      omega
    · rw [list_miss fun _ => hb]
      exact ih (p + 1) (by omega)
theorem takeAll_len (fr : Int) (l : List Bool) (n : Int) : (takeAll fr l n).1.length = l.length := by
  unfold takeAll
  split
  · rfl
  · split
    · rfl
    · exact setAll_len _ _ _
theorem turnAll_len (fr : Int) (l : List Bool) (xs : List Int) (was : Bool) (e : Int) : (turnAll fr l xs was e).1.length = l.length := by
  unfold turnAll
  split
  · rfl
  · split
    · exact setAll_len _ _ _
    · rfl
end Go.Pool
