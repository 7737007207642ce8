/- Part 3 of the proof of ChainWrites: lemmas alone. -/
import Derived.Still
import Derived.Deep.Quiet
import Derived.Tactics
import Derived.KernelRfl
section
namespace Go.Reg
open Go
variable {P : Program} {ops : Array Oper} {md : Region.Mode} {C : World → Prop} {Q : Act → World → Prop}
def NoX : Exit → Act → World → Prop := fun _ _ _ => False
def stillUpon (w : World) (v : Value) : Result Next → Prop
  | .ok (.value u) w' => w' = w ∧ u = v
  | .ok .skip w' => w' = w ∧ v = undef
  | _ => False
def stillAt (P : Program) (o : Oper) (a : Act) (w : World) (v : Value) : Prop := stillUpon w v ((execOp a.eval o).run P w)
inductive Kind where
  | p | s | w | x
  deriving DecidableEq
def still (P : Program) (C : World → Prop) (o : Oper) (a : Act) (next : Act → Prop) : Prop := ∃ v, (∀ w, C w → stillAt P o a w v) ∧ next (a.put o.dst v)
def any : World → Prop := fun _ => True
def cm (C : World → Prop) (m : Bool) (w : World) : Prop := m = true → C w
def opK (P : Program) (C : World → Prop) (m : Bool) (k : Kind) (o : Oper) (K : Bool → Act → World → Prop) (a : Act) (w : World) : Prop :=
  match k with
  | .p => still P any o a (fun a' => K m a' w)
  | .s => m = true ∧ still P C o a (fun a' => K m a' w)
  | .w => o.wp P a w (fun a' w' => cm C m w' ∧ K m a' w') NoX
  | .x => o.wp P a w (fun a' w' => K false a' w') NoX
def wpLex (P : Program) (ops : Array Oper) (C : World → Prop) (Q : Act → World → Prop) : List Oper → List Kind → Bool → Act → World → Prop
  | [], _, _, a, w => Q a w
  | o :: rest, ks, m, a, w =>
    if Region.wanted o (yielded ops a.tmps) then opK P C m (ks.headD .p) o (fun m' a' w' => wpLex P ops C Q rest ks.tail m' a' w') a w
    else wpLex P ops C Q rest ks.tail m (a.put o.dst undef) w
def Out (o : Oper) (a a1 : Act) : Prop := (∃ v, a1 = a.put o.dst v) ∨ (∃ d, a1 = Act.put { a with defers := d :: a.defers } o.dst undef)
theorem letsOut_no (h : LetsOut NoX) : False := by
  obtain ⟨_, _, h⟩ := h
  exact h
theorem wp_exists {o : Oper} {a : Act} {w : World} {next : Act → World → Prop} (h : o.wp P a w next NoX) : ∃ a1 w1, Out o a a1 ∧ next a1 w1 := by
  unfold Oper.wp at h
  generalize (execOp a.eval o).run P w = r at h
  cases r with
  | ok n w' =>
    cases n <;> simp only [Oper.upon] at h
    case value v => exact ⟨_, _, .inl ⟨_, rfl⟩, h⟩
    case skip => exact ⟨_, _, .inl ⟨_, rfl⟩, h⟩
    case defer d => exact ⟨_, _, .inr ⟨_, rfl⟩, h⟩
    case enter f args =>
      obtain ⟨e, w'', fr, hR, _⟩ := h []
      cases e with
      | returned v => exact ⟨_, _, .inl ⟨_, rfl⟩, hR⟩
      | panicked c => exact hR.elim
      | outgrown => exact (letsOut_no hR).elim
    case row row args =>
      obtain ⟨v, w'', hR, _⟩ := h default []
      exact ⟨_, _, .inl ⟨_, rfl⟩, hR⟩
  | halt x w' => cases x <;> simp only [Oper.upon] at h; exact h.elim
theorem wp_to {o : Oper} {a b : Act} {w : World} {next next2 : Act → World → Prop} (he : execOp b.eval o = execOp a.eval o)
    (h : o.wp P a w next NoX) (hv : ∀ v w1, next (a.put o.dst v) w1 → next2 (b.put o.dst v) w1)
    (hd : ∀ d w1, next (Act.put { a with defers := d :: a.defers } o.dst undef) w1 → next2 (Act.put { b with defers := d :: b.defers } o.dst undef) w1) : o.wp P b w next2 NoX := by
  unfold Oper.wp at *
  rw [he]
  generalize (execOp a.eval o).run P w = r at *
  cases r with
  | ok n w' =>
    cases n <;> simp only [Oper.upon] at h ⊢
    case value v => exact hv _ _ h
    case skip => exact hv _ _ h
    case defer d => exact hd _ _ h
    case enter f args =>
      refine Calls.mono h fun e w'' hr => ?_
      cases e with
      | returned v => exact hv _ _ hr
      | panicked c => exact hr.elim
      | outgrown => exact (letsOut_no hr).elim
    case row row args => exact Rows.mono h fun _ _ hr => hv _ _ hr
  | halt x w' => cases x <;> simp only [Oper.upon] at h ⊢ <;> exact h
theorem out_exec {o oj : Oper} {a a1 : Act} (h : Out o a a1) (hs : ∀ cs b, oj.op ≠ .select cs b) (hd : ∀ d, o.dst = some d → d ∉ oj.looksAt ops) : execOp a1.eval oj = execOp a.eval oj := by
  rcases h with ⟨v, rfl⟩ | ⟨d, rfl⟩
  · exact execOp_put oj hs a o.dst v hd
  · exact execOp_put oj hs { a with defers := d :: a.defers } o.dst undef hd
theorem out_wanted {o oj : Oper} {a a1 : Act} (h : Out o a a1) (hd : ∀ d, o.dst = some d → d ∉ oj.looksAt ops) : Region.wanted oj (yielded ops a1.tmps) = Region.wanted oj (yielded ops a.tmps) := by
  rcases h with ⟨v, rfl⟩ | ⟨d, rfl⟩
  · exact wanted_put oj a o.dst v hd
  · exact wanted_put oj { a with defers := d :: a.defers } o.dst undef hd
variable {ks : Nat → Kind}
def opA (P : Program) (ops : Array Oper) (C : World → Prop) (ks : Nat → Kind) (m : Bool) (i : Nat) (K : Bool → Act → World → Prop) (a : Act) (w : World) : Prop :=
  match ops[i]? with
  | none => K m a w
  | some o => if Region.wanted o (yielded ops a.tmps) then opK P C m (ks i) o K a w else K m (a.put o.dst undef) w
def wpA (P : Program) (md : Region.Mode) (ops : Array Oper) (C : World → Prop) (ks : Nat → Kind) (Q : Act → World → Prop) : Nat → Array Bool → Bool → Act → World → Prop
  | 0, listed, _, a, w => Region.ready md ops listed = [] ∧ Q a w
  | fuel + 1, listed, m, a, w =>
    (Region.ready md ops listed = [] → Q a w) ∧ ∀ i ∈ Region.ready md ops listed, opA P ops C ks m i (wpA P md ops C ks Q fuel (listed.setIfInBounds i true)) a w
theorem wp_any_mono {o : Oper} {a : Act} {w : World} {K : Act → World → Prop} {Q' : Exit → Act → World → Prop} (h : o.wp P a w K NoX) {K' : Act → World → Prop} (hk : ∀ a w, K a w → K' a w) : o.wp P a w K' Q' := by
  unfold Oper.wp at *
  generalize (execOp a.eval o).run P w = r at *
  cases r with
  | ok n w' =>
    cases n <;> simp only [Oper.upon] at h ⊢
    case value v => exact hk _ _ h
    case skip => exact hk _ _ h
    case defer d => exact hk _ _ h
    case enter f args =>
      refine Calls.mono h fun e w'' hr => ?_
      cases e with
      | returned v => exact hk _ _ hr
      | panicked c => exact hr.elim
      | outgrown => exact (letsOut_no hr).elim
    case row row args => exact Rows.mono h fun _ _ hr => hk _ _ hr
  | halt x w' => cases x <;> simp only [Oper.upon] at h ⊢; exact h.elim
theorem wp_of_still {o : Oper} {a : Act} {w : World} {v : Value} {K : Act → World → Prop} {Q' : Exit → Act → World → Prop} (h : stillAt P o a w v) (hk : K (a.put o.dst v) w) : o.wp P a w K Q' := by
  unfold stillAt at h
  unfold Oper.wp
  generalize (execOp a.eval o).run P w = r at *
  cases r with
  | ok n w' =>
    cases n <;> simp only [stillUpon] at h <;> simp only [Oper.upon]
    case value u =>
      obtain ⟨rfl, rfl⟩ := h
      exact hk
    case skip =>
      obtain ⟨rfl, rfl⟩ := h
      exact hk
  | halt x w' => simp only [stillUpon] at h
theorem opK_wp {m : Bool} {k : Kind} {o : Oper} {K : Bool → Act → World → Prop} {K' : Act → World → Prop} {a : Act} {w : World} {Q' : Exit → Act → World → Prop} (hC : cm C m w) (h : opK P C m k o K a w) (hk : ∀ m' a' w', cm C m' w' → K m' a' w' → K' a' w') : o.wp P a w K' Q' := by
  cases k with
  | p =>
    obtain ⟨v, hv, h⟩ := h
    exact wp_of_still (hv w trivial) (hk _ _ _ hC h)
  | s =>
    obtain ⟨hm, v, hv, h⟩ := h
    exact wp_of_still (hv w (hC hm)) (hk _ _ _ hC h)
  | w => exact wp_any_mono h fun a' w' ⟨hc, hh⟩ => hk _ _ _ hc hh
  | x => exact wp_any_mono h fun a' w' hh => hk _ _ _ (fun e => by cases e) hh
theorem wpAny_of_A {Q' : Exit → Act → World → Prop} (hQ : ∀ a w, Q a w → Q' .normal a w) : ∀ (fuel : Nat) (listed : Array Bool) (m : Bool) (a : Act) (w : World), cm C m w →
    wpA P md ops C ks Q fuel listed m a w → wpAny P md ops Q' fuel listed a w
  | 0, _, _, _, _, _, h => ⟨h.1, hQ _ _ h.2⟩
  | fuel + 1, listed, m, a, w, hC, h => by
    refine ⟨fun h0 => hQ _ _ (h.1 h0), fun i hi => ?_⟩
    have h1 := h.2 i hi
    unfold opA at h1
    unfold wpOp
    split
    · rename_i ho; simp only [ho] at h1; exact wpAny_of_A hQ fuel _ _ _ _ hC h1
    · rename_i o ho
      simp only [ho] at h1
      split
      · rename_i hw
        simp only [hw, if_true] at h1
        exact .inl (opK_wp hC h1 fun m' a' w' hc hk => wpAny_of_A hQ fuel _ _ _ _ hc hk)
      · rename_i hw
        simp only [hw] at h1
        exact wpAny_of_A hQ fuel _ _ _ _ hC h1
def YC (P : Program) (ops : Array Oper) (C : World → Prop) (o : Oper) (v : Value) (a : Act) : Prop :=
  (Region.wanted o (yielded ops a.tmps) = true ∧ ∀ w, C w → stillAt P o a w v) ∨ (Region.wanted o (yielded ops a.tmps) = false ∧ v = undef)
theorem YC.same {o : Oper} {v : Value} {a a' : Act} (hy : YC P ops C o v a) (he : execOp a'.eval o = execOp a.eval o) (hw : Region.wanted o (yielded ops a'.tmps) = Region.wanted o (yielded ops a.tmps)) : YC P ops C o v a' := by
  unfold YC stillAt at *
  rw [he, hw]
  exact hy
theorem YC.det {D : World → Prop} {o : Oper} {v u : Value} {a : Act} {w : World} (hC : C w) (hD : D w) (h1 : YC P ops C o v a) (h2 : YC P ops D o u a) : u = v := by
  rcases h1 with ⟨hw, h1⟩ | ⟨hw, rfl⟩ <;> rcases h2 with ⟨hw2, h2⟩ | ⟨hw2, rfl⟩
  · have a1 := h1 w hC
    have a2 := h2 w hD
    unfold stillAt at a1 a2
    generalize (execOp a.eval o).run P w = r at *
    cases r with
    | ok n w' =>
      cases n <;> simp only [stillUpon] at a1 a2
      · exact a2.2.symm.trans a1.2
      · exact a2.2.trans a1.2.symm
    | halt x w' => simp only [stillUpon] at a1
  · rw [hw] at hw2; cases hw2
  · rw [hw] at hw2; cases hw2
  · rfl
theorem unlisted_false {listed : Array Bool} {j : Nat} (h : listed.getD j true = false) : listed.getD j false = false := by
  rcases Nat.lt_or_ge j listed.size with h' | h'
  · simp [h'] at h ⊢; exact h
  · simp [Array.getElem?_eq_none h'] at h
def Waits (md : Region.Mode) (ops : Array Oper) (listed : Array Bool) (i : Nat) (D : List Nat) : Prop :=
  ∀ j ∈ D, listed.getD j true = false ∧ ∃ oj, ops[j]? = some oj ∧ ∃ e ∈ oj.after, Region.binds md e = true ∧ (e.on = i ∨ e.on ∈ D)
theorem Waits.not_ready {listed : Array Bool} {i j : Nat} {D : List Nat} (h : Waits md ops listed i D) (hi : listed.getD i true = false) (hj : j ∈ Region.ready md ops listed) : j ∉ D := by
  intro hd
  obtain ⟨_, oj, hoj, e, he, hb, hon⟩ := h j hd
  obtain ⟨_, oj', hoj', hall⟩ := mem_ready.1 hj
  rw [hoj] at hoj'
  injection hoj' with hoj'
  subst hoj'
  have h1 := hall e he hb
  rcases hon with hon | hon
  · rw [hon, unlisted_false hi] at h1; cases h1
  · rw [unlisted_false (h _ hon).1] at h1; cases h1
theorem Waits.step {listed : Array Bool} {i j : Nat} {D : List Nat} (h : Waits md ops listed i D) (hj : j ∉ D) : Waits md ops (listed.setIfInBounds j true) i D := by
  intro k hk
  obtain ⟨h1, h2⟩ := h k hk
  have hne : j ≠ k := by
    rintro rfl
    exact hj hk
  exact ⟨by rw [getD_set_ne true hne]; exact h1, h2⟩
theorem first_s {Y : Act → Prop} {A : Bool → Prop} {i : Nat} {oi : Oper} {v : Value} {D : List Nat} (hi : ops[i]? = some oi)
    (hsame : ∀ a a', Y a → execOp a'.eval oi = execOp a.eval oi → Region.wanted oi (yielded ops a'.tmps) = Region.wanted oi (yielded ops a.tmps) → Y a') (hsel : ∀ (j : Nat) (o : Oper) cs b, ops[j]? = some o → o.op ≠ .select cs b)
    (hown : ∀ (K : Bool → Act → World → Prop) (m : Bool) (a : Act) (w : World), A m → cm C m w → Y a → K m (a.put oi.dst v) w → opA P ops C ks m i K a w) :
    ∀ (fuel : Nat) (listed : Array Bool) (m : Bool) (a : Act) (w : World), A m → cm C m w → Waits md ops listed i D →
      (∀ j oj, ops[j]? = some oj → j ≠ i → j ∉ D → listed.getD j true = false → oi.apart ops oj = true ∧ (ks j = .x → A false)) →
      i ∈ Region.ready md ops listed → Y a → wpA P md ops C ks Q fuel (listed.setIfInBounds i true) m (a.put oi.dst v) w → wpA P md ops C ks Q (fuel + 1) listed m a w := by
  intro fuel
  induction fuel with
  | zero =>
    intro listed m a w hA hC hD _ hr hy H
    refine ⟨fun h => (by rw [h] at hr; cases hr), fun j hj => ?_⟩
    by_cases hji : j = i
    · subst hji; exact hown _ _ _ _ hA hC hy H
    · have := ready_mono hj hji
      rw [H.1] at this
      cases this
  | succ fuel ih =>
    intro listed m a w hA hC hD hfree hr hy H
    refine ⟨fun h => (by rw [h] at hr; cases hr), fun j hj => ?_⟩
    by_cases hji : j = i
    · subst hji; exact hown _ _ _ _ hA hC hy H
    · have h1 := H.2 j (ready_mono hj hji)
      obtain ⟨hjun, oj, hoj, hall⟩ := mem_ready.1 hj
      have hjD := hD.not_ready (mem_ready.1 hr).1 hj
      obtain ⟨hap, hjx⟩ := hfree j oj hoj hji hjD hjun
      obtain ⟨e1, e2, e3⟩ := Oper.apart_spec hap
      have hsi := fun cs b => hsel i oi cs b hi
      have hsj := fun cs b => hsel j oj cs b hoj
      have hx : execOp (a.put oi.dst v).eval oj = execOp a.eval oj := execOp_put oj hsj a oi.dst v e1
      have hwt := wanted_put (ops := ops) oj a oi.dst v e1
      have hfree' : ∀ k ok, ops[k]? = some ok → k ≠ i → k ∉ D → (listed.setIfInBounds j true).getD k true = false → oi.apart ops ok = true ∧ (ks k = .x → A false) := fun k ok hk hki hkD hun => by
        refine hfree k ok hk hki hkD ?_
        by_cases hjk : j = k
        · subst hjk; exact hjun
        · rw [getD_set_ne true hjk] at hun; exact hun
      have go : ∀ m1 a1 w1, A m1 → cm C m1 w1 → Y a1 → wpA P md ops C ks Q fuel ((listed.setIfInBounds i true).setIfInBounds j true) m1 (a1.put oi.dst v) w1 → wpA P md ops C ks Q (fuel + 1) (listed.setIfInBounds j true) m1 a1 w1 := fun m1 a1 w1 hA1 hc1 hy1 hh => by
        refine ih _ m1 a1 w1 hA1 hc1 (hD.step hjD) hfree' (ready_mono hr (Ne.symm hji)) hy1 ?_
        rw [Array.setIfInBounds_comm _ _ hji]
        exact hh
      have keep : ∀ u, Y (a.put oj.dst u) := fun u => hsame _ _ hy (execOp_put oi hsi a oj.dst u e3) (wanted_put oi a oj.dst u e3)
      have keepd : ∀ d, Y (Act.put { a with defers := d :: a.defers } oj.dst undef) := fun d => hsame _ _ hy (execOp_put oi hsi { a with defers := d :: a.defers } oj.dst undef e3) (wanted_put oi { a with defers := d :: a.defers } oj.dst undef e3)
      have comm : ∀ u, (a.put oi.dst v).put oj.dst u = (a.put oj.dst u).put oi.dst v := fun u => Act.put_comm _ v u e2
      have commd : ∀ d, Act.put { a.put oi.dst v with defers := d :: (a.put oi.dst v).defers } oj.dst undef = (Act.put { a with defers := d :: a.defers } oj.dst undef).put oi.dst v := fun d => by
        rw [Act.put_defers]
        exact Act.put_comm _ v undef e2
      have stl : ∀ (E : World → Prop) (K K' : Act → Prop), still P E oj (a.put oi.dst v) K → (∀ u, K ((a.put oj.dst u).put oi.dst v) → K' (a.put oj.dst u)) → still P E oj a K' := fun E K K' h hk => by
        obtain ⟨u, hu, hn⟩ := h
        refine ⟨u, fun w' hw' => ?_, hk u (by rw [← comm]; exact hn)⟩
        have := hu w' hw'
        unfold stillAt at *
        rwa [hx] at this
      unfold opA at h1 ⊢
      simp only [hoj] at h1 ⊢
      rw [hwt] at h1
      split at h1
      · rename_i hw
        rw [if_pos hw]
        cases hkj : ks j with
        | p =>
          rw [hkj] at h1
          have h2 : still P any oj (a.put oi.dst v) (fun a' => wpA P md ops C ks Q fuel ((listed.setIfInBounds i true).setIfInBounds j true) m a' w) := h1
          refine stl any _ (fun a' => wpA P md ops C ks Q (fuel + 1) (listed.setIfInBounds j true) m a' w) h2 fun u hn => ?_
          exact go _ _ _ hA hC (keep u) hn
        | s =>
          rw [hkj] at h1
          have h2 : still P C oj (a.put oi.dst v) (fun a' => wpA P md ops C ks Q fuel ((listed.setIfInBounds i true).setIfInBounds j true) m a' w) := h1.2
          refine ⟨h1.1, stl C _ (fun a' => wpA P md ops C ks Q (fuel + 1) (listed.setIfInBounds j true) m a' w) h2 fun u hn => ?_⟩
          exact go _ _ _ hA hC (keep u) hn
        | w =>
          rw [hkj] at h1
          refine wp_to hx.symm h1 (fun u w1 ⟨hc1, hh⟩ => ⟨hc1, ?_⟩) (fun d w1 ⟨hc1, hh⟩ => ⟨hc1, ?_⟩)
          · refine go _ _ _ hA hc1 (keep u) ?_
            rw [← comm]
            exact hh
          · refine go _ _ _ hA hc1 (keepd d) ?_
            rw [← commd]
            exact hh
        | x =>
          rw [hkj] at h1
          refine wp_to hx.symm h1 (fun u w1 hh => ?_) (fun d w1 hh => ?_)
          · refine go _ _ _ (hjx hkj) (fun e => by cases e) (keep u) ?_
            rw [← comm]
            exact hh
          · refine go _ _ _ (hjx hkj) (fun e => by cases e) (keepd d) ?_
            rw [← commd]
            exact hh
      · rename_i hw
        rw [if_neg hw]
        refine go _ _ _ hA hC (keep undef) ?_
        rw [← comm]
        exact h1
theorem first_w {i : Nat} {oi : Oper} {D : List Nat} (hi : ops[i]? = some oi) (hsel : ∀ (j : Nat) (o : Oper) cs b, ops[j]? = some o → o.op ≠ .select cs b) (mi : Bool → Bool) (hmi : ∀ m, (ks i = .w ∧ mi m = m) ∨ (ks i = .x ∧ mi m = false)) :
    ∀ (fuel : Nat) (listed : Array Bool) (m : Bool) (a : Act) (w : World), cm C m w → Waits md ops listed i D →
      (∀ j oj, ops[j]? = some oj → j ≠ i → j ∉ D → listed.getD j true = false → oi.apart ops oj = true ∧ (ks j = .p ∨ (ks j = .s ∧ ks i = .w))) →
      i ∈ Region.ready md ops listed → Region.wanted oi (yielded ops a.tmps) = true → oi.wp P a w (fun a' w' => cm C (mi m) w' ∧ wpA P md ops C ks Q fuel (listed.setIfInBounds i true) (mi m) a' w') NoX → wpA P md ops C ks Q (fuel + 1) listed m a w := by
  have own : ∀ (K : Bool → Act → World → Prop) (m : Bool) (a : Act) (w : World), Region.wanted oi (yielded ops a.tmps) = true → oi.wp P a w (fun a' w' => cm C (mi m) w' ∧ K (mi m) a' w') NoX → opA P ops C ks m i K a w := fun K m a w hw h => by
    unfold opA
    simp only [hi, hw, if_true]
    rcases hmi m with ⟨hk, hm⟩ | ⟨hk, hm⟩
    · rw [hk]
      rw [hm] at h
      exact h
    · rw [hk]
      rw [hm] at h
      exact wp_any_mono h fun _ _ h => h.2
  intro fuel
  induction fuel with
  | zero =>
    intro listed m a w hC hD _ hr hw H
    refine ⟨fun h => (by rw [h] at hr; cases hr), fun j hj => ?_⟩
    by_cases hji : j = i
    · subst hji; exact own _ _ _ _ hw H
    · obtain ⟨a1, w1, _, _, h1⟩ := wp_exists H
      have := ready_mono hj hji
      rw [h1.1] at this
      cases this
  | succ fuel ih =>
    intro listed m a w hC hD hfree hr hw H
    refine ⟨fun h => (by rw [h] at hr; cases hr), fun j hj => ?_⟩
    by_cases hji : j = i
    · subst hji; exact own _ _ _ _ hw H
    · obtain ⟨hjun, oj, hoj, hall⟩ := mem_ready.1 hj
      have hjD := hD.not_ready (mem_ready.1 hr).1 hj
      obtain ⟨hap, hkj⟩ := hfree j oj hoj hji hjD hjun
      obtain ⟨e1, e2, e3⟩ := Oper.apart_spec hap
      have hsi := fun cs b => hsel i oi cs b hi
      have hsj := fun cs b => hsel j oj cs b hoj
      have hfree' : ∀ k ok, ops[k]? = some ok → k ≠ i → k ∉ D → (listed.setIfInBounds j true).getD k true = false → oi.apart ops ok = true ∧ (ks k = .p ∨ (ks k = .s ∧ ks i = .w)) := fun k ok hk hki hkD hun => by
        refine hfree k ok hk hki hkD ?_
        by_cases hjk : j = k
        · subst hjk; exact hjun
        · rw [getD_set_ne true hjk] at hun; exact hun
      obtain ⟨CC, hCC, hfrom, hto⟩ : ∃ CC : World → Prop, (∀ w', cm C (mi m) w' → CC w' ∨ ks j = .s ∧ mi m = false) ∧
          (∀ (K : Bool → Act → World → Prop) a' w', opA P ops C ks (mi m) j K a' w' → ∃ u, YC P ops CC oj u a' ∧ (ks j = .s ∧ mi m = false → Region.wanted oj (yielded ops a'.tmps) = false) ∧ K (mi m) (a'.put oj.dst u) w') ∧
          (∀ (K : Bool → Act → World → Prop) a' w' u, YC P ops CC oj u a' → (ks j = .s ∧ mi m = false → Region.wanted oj (yielded ops a'.tmps) = false) → K m (a'.put oj.dst u) w' → opA P ops C ks m j K a' w') := by
        rcases hkj with hkj | ⟨hkj, hki⟩
        · refine ⟨any, fun _ _ => .inl trivial, fun K a' w' h => ?_, fun K a' w' u hu _ h => ?_⟩
          · unfold opA at h
            simp only [hoj, hkj] at h
            by_cases hwj : Region.wanted oj (yielded ops a'.tmps) = true
            · rw [if_pos hwj] at h
              obtain ⟨u, hu, hn⟩ := h
              refine ⟨u, .inl ⟨hwj, hu⟩, (fun hc => ?_), hn⟩
              rw [hkj] at hc
              cases hc.1
            · rw [if_neg hwj] at h
              refine ⟨undef, .inr ⟨by simpa using hwj, rfl⟩, (fun hc => ?_), h⟩
              rw [hkj] at hc
              cases hc.1
          · unfold opA
            simp only [hoj, hkj]
            rcases hu with ⟨hwj, hu⟩ | ⟨hwj, rfl⟩
            · rw [if_pos hwj]
              exact ⟨u, hu, h⟩
            · rw [if_neg (by rw [hwj]; simp)]
              exact h
        · have hmm : mi m = m := by
            rcases hmi m with ⟨_, h⟩ | ⟨h, _⟩
            · exact h
            · rw [hki] at h; cases h
          refine ⟨C, fun w' hc => ?_, fun K a' w' h => ?_, fun K a' w' u hu hno h => ?_⟩
          · cases hmb : mi m with
            | true => exact .inl (hc hmb)
            | false => exact .inr ⟨hkj, rfl⟩
          · unfold opA at h
            simp only [hoj, hkj] at h
            by_cases hwj : Region.wanted oj (yielded ops a'.tmps) = true
            · rw [if_pos hwj] at h
              obtain ⟨hmt, u, hu, hn⟩ := h
              refine ⟨u, .inl ⟨hwj, hu⟩, (fun hc => ?_), hn⟩
              rw [hmt] at hc
              cases hc.2
            · rw [if_neg hwj] at h
              exact ⟨undef, .inr ⟨by simpa using hwj, rfl⟩, (fun _ => by simpa using hwj), h⟩
          · unfold opA
            simp only [hoj, hkj]
            rcases hu with ⟨hwj, hu⟩ | ⟨hwj, rfl⟩
            · rw [if_pos hwj]
              refine ⟨?_, u, hu, h⟩
              cases hmb : m with
              | true => rfl
              | false =>
                rw [hno ⟨hkj, by rw [hmm, hmb]⟩] at hwj
                cases hwj
            · rw [if_neg (by rw [hwj]; simp)]
              exact h
      obtain ⟨a1, w1, ho1, hc1, h1⟩ := wp_exists H
      obtain ⟨u, hu, hno, _⟩ := hfrom _ _ _ (h1.2 j (ready_mono hj hji))
      have hu' : YC P ops CC oj u a := hu.same (out_exec ho1 hsj e1).symm (out_wanted ho1 e1).symm
      have hno' : ks j = .s ∧ mi m = false → Region.wanted oj (yielded ops a.tmps) = false := fun hc => by
        rw [← out_wanted ho1 e1]; exact hno hc
      refine hto _ _ _ u hu' hno' ?_
      refine ih _ _ _ w hC (hD.step hjD) hfree' (ready_mono hr (Ne.symm hji)) ?_ ?_
      · rw [wanted_put oi a oj.dst u e3]; exact hw
      · have fin : ∀ a2 w2, Out oi a a2 → cm C (mi m) w2 ∧ wpA P md ops C ks Q (fuel + 1) (listed.setIfInBounds i true) (mi m) a2 w2 → cm C (mi m) w2 ∧ wpA P md ops C ks Q fuel ((listed.setIfInBounds j true).setIfInBounds i true) (mi m) (a2.put oj.dst u) w2 := fun a2 w2 ho2 ⟨hc2, h2⟩ => by
          refine ⟨hc2, ?_⟩
          obtain ⟨u', hy', hno2, hk'⟩ := hfrom _ _ _ (h2.2 j (ready_mono hj hji))
          have hua := hu'.same (out_exec ho2 hsj e1) (out_wanted ho2 e1)
          have : u' = u := by
            rcases hCC w2 hc2 with hcc | hcc
            · exact hua.det hcc hcc hy'
            · have hn := hno2 hcc
              rcases hua with ⟨hwj, _⟩ | ⟨_, rfl⟩
              · rw [hn] at hwj; cases hwj
              · rcases hy' with ⟨hwj, _⟩ | ⟨_, rfl⟩
                · rw [hn] at hwj; cases hwj
                · rfl
          subst this
          rw [Array.setIfInBounds_comm _ _ hji]
          exact hk'
        refine wp_to (execOp_put oi hsi a oj.dst u e3) H (fun v w2 h2 => ?_) (fun d w2 h2 => ?_)
        · rw [← Act.put_comm _ v u (fun d hd he => e2 d hd he)]
          exact fin _ _ (.inl ⟨_, rfl⟩) h2
        · rw [Act.put_defers, ← Act.put_comm _ undef u (fun d hd he => e2 d hd he)]
          exact fin _ _ (.inr ⟨_, rfl⟩) h2
def hasEdge (md : Region.Mode) (ops : Array Oper) (k : Nat) (D : List Nat) (j : Nat) : Bool :=
  match ops[j]? with
  | some oj => oj.after.any fun e => Region.binds md e && (e.on == k || D.contains e.on)
  | none => false
def dset (md : Region.Mode) (ops : Array Oper) (k : Nat) : List Nat :=
  (List.range ops.size).foldl (fun D j => if k < j && hasEdge md ops k D j then j :: D else D) []
def fits (k j : Kind) : Bool :=
  match k, j with
  | .p, _ => true
  | .s, .x => false
  | .s, _ => true
  | .w, .p => true
  | .w, .s => true
  | .w, _ => false
  | .x, .p => true
  | .x, _ => false
def freeK (md : Region.Mode) (ops : Array Oper) (ks : Nat → Kind) (listed : Array Bool) (k : Nat) (D : List Nat) : Bool :=
  match ops[k]? with
  | none => true
  | some o =>
    D.all (fun j => !listed.getD j true && hasEdge md ops k D j) &&
    (List.range ops.size).all fun j => j == k || listed.getD j true || D.contains j ||
      (match ops[j]? with
       | none => true
       | some oj => o.apart ops oj && fits (ks k) (ks j))
def lexFrom (md : Region.Mode) (ops : Array Oper) (ks : Nat → Kind) : Nat → Nat → Array Bool → Bool
  | 0, _, listed => (Region.ready md ops listed).isEmpty
  | fuel + 1, k, listed => (Region.ready md ops listed).contains k && freeK md ops ks listed k (dset md ops k) && lexFrom md ops ks fuel (k + 1) (listed.setIfInBounds k true)
def lexB (md : Region.Mode) (ops : Array Oper) (ks : List Kind) : Bool := Region.noSelect ops && lexFrom md ops (fun i => ks.getD i .p) ops.size 0 (Array.replicate ops.size false)
theorem free_waits {k : Nat} {ok : Oper} {listed : Array Bool} {D : List Nat} (hk : ops[k]? = some ok) (h : freeK md ops ks listed k D = true) : Waits md ops listed k D := by
  intro j hj
  simp only [freeK, hk, Bool.and_eq_true, List.all_eq_true] at h
  have h1 := h.1 j hj
  simp only [Bool.not_eq_true'] at h1
  refine ⟨h1.1, ?_⟩
  have h2 := h1.2
  unfold hasEdge at h2
  split at h2
  · rename_i oj hoj
    obtain ⟨e, he, hb⟩ := Array.any_eq_true'.1 h2
    simp only [Bool.and_eq_true, Bool.or_eq_true, beq_iff_eq, List.contains_iff_mem] at hb
    exact ⟨oj, hoj, e, he, hb.1, hb.2⟩
  · cases h2
theorem free_apart {k : Nat} {ok : Oper} {listed : Array Bool} {D : List Nat} (hk : ops[k]? = some ok) (h : freeK md ops ks listed k D = true) (j : Nat) (oj : Oper) (hj : ops[j]? = some oj) (hne : j ≠ k) (hD : j ∉ D) (hun : listed.getD j true = false) :
    ok.apart ops oj = true ∧ fits (ks k) (ks j) = true := by
  simp only [freeK, hk, Bool.and_eq_true, List.all_eq_true, List.mem_range] at h
  have h1 := h.2 j (Array.getElem?_eq_some_iff.1 hj).1
  simpa only [hj, Bool.or_eq_true, beq_iff_eq, hne, false_or, hun, Bool.false_eq_true, List.contains_iff_mem, hD, Bool.and_eq_true] using h1
theorem wpA_lex {kl : List Kind} (hs : Region.noSelect ops = true) : ∀ (l : List Oper) (kt : List Kind) (k : Nat) (listed : Array Bool) (m : Bool) (a : Act) (w : World), cm C m w → (∀ j, l[j]? = ops[k + j]?) → (∀ j, kt.getD j .p = kl.getD (k + j) .p) →
    lexFrom md ops (fun i => kl.getD i .p) l.length k listed = true → wpLex P ops C Q l kt m a w → wpA P md ops C (fun i => kl.getD i .p) Q l.length listed m a w
  | [], _, _, _, _, _, _, _, _, _, hB, h => ⟨by simpa [lexFrom] using hB, h⟩
  | o :: l, kt, k, listed, m, a, w, hC, hl, hkt, hB, h => by
    have h0 : ops[k]? = some o := by simpa using (hl 0).symm
    have hk0 : kt.headD .p = kl.getD k .p := by
      have := hkt 0
      cases kt with
      | nil => simpa using this
      | cons kd xs => simpa using this
    have hkt' : ∀ j, kt.tail.getD j .p = kl.getD (k + 1 + j) .p := fun j => by
      have := hkt (j + 1)
      cases kt with
      | nil => simpa [Nat.add_assoc, Nat.add_comm 1 j] using this
      | cons kd xs => simpa [Nat.add_assoc, Nat.add_comm 1 j] using this
    have hl' : ∀ j, l[j]? = ops[k + 1 + j]? := fun j => by have := hl (j + 1); simpa [Nat.add_assoc, Nat.add_comm 1 j] using this
    simp only [List.length_cons, lexFrom, Bool.and_eq_true] at hB
    obtain ⟨⟨hr, hf⟩, hB'⟩ := hB
    have hsel := Region.noSelect_spec hs
    have hr' : k ∈ Region.ready md ops listed := by simpa using hr
    have hW := free_waits h0 hf
    have hA := free_apart h0 hf
    have next : ∀ m' a' w', cm C m' w' → wpLex P ops C Q l kt.tail m' a' w' → wpA P md ops C (fun i => kl.getD i .p) Q l.length (listed.setIfInBounds k true) m' a' w' := fun m' a' w' hc hh => wpA_lex hs l kt.tail (k + 1) _ m' a' w' hc hl' hkt' hB' hh
    simp only [wpLex] at h
    by_cases hw : Region.wanted o (yielded ops a.tmps) = true
    · rw [if_pos hw, hk0] at h
      have hA' : ∀ j oj, ops[j]? = some oj → j ≠ k → j ∉ dset md ops k → listed.getD j true = false → o.apart ops oj = true ∧ fits (kl.getD k .p) (kl.getD j .p) = true := hA
      cases hkk : kl.getD k .p with
      | p =>
        rw [hkk] at h
        obtain ⟨v, hv, hn⟩ := h
        refine first_s (Y := YC P ops any o v) (A := fun _ => True) (v := v) (D := dset md ops k) h0 (fun _ _ hy he hw => hy.same he hw) hsel (fun K m a w _ hc hy hk => ?_) l.length listed m a w trivial hC hW (fun j oj hj hne hjD hun => ⟨(hA j oj hj hne hjD hun).1, fun _ => trivial⟩) hr' (.inl ⟨hw, hv⟩) (next _ _ _ hC hn)
        unfold opA
        simp only [h0, hkk]
        rcases hy with ⟨hwj, hu⟩ | ⟨hwj, rfl⟩
        · rw [if_pos hwj]
          exact ⟨v, hu, hk⟩
        · rw [if_neg (by rw [hwj]; simp)]
          exact hk
      | s =>
        rw [hkk] at h
        obtain ⟨hmt, v, hv, hn⟩ := h
        refine first_s (Y := YC P ops C o v) (A := fun m => m = true) (v := v) (D := dset md ops k) h0 (fun _ _ hy he hw => hy.same he hw) hsel (fun K m a w hm hc hy hk => ?_) l.length listed m a w hmt hC hW (fun j oj hj hne hjD hun => ?_) hr' (.inl ⟨hw, hv⟩) (next _ _ _ hC hn)
        · unfold opA
          simp only [h0, hkk]
          rcases hy with ⟨hwj, hu⟩ | ⟨hwj, rfl⟩
          · rw [if_pos hwj]
            exact ⟨hm, v, hu, hk⟩
          · rw [if_neg (by rw [hwj]; simp)]
            exact hk
        · have h3 := hA' j oj hj hne hjD hun
          refine ⟨h3.1, fun hx => ?_⟩
          have h4 := h3.2
          rw [hkk, hx] at h4
          cases h4
      | w =>
        rw [hkk] at h
        refine first_w (D := dset md ops k) h0 hsel (fun m => m) (fun m => .inl ⟨hkk, rfl⟩) l.length listed m a w hC hW (fun j oj hj hne hjD hun => ?_) hr' hw ?_
        · have h3 := hA' j oj hj hne hjD hun
          refine ⟨h3.1, ?_⟩
          have h4 := h3.2
          rw [hkk] at h4
          cases hkj : kl.getD j .p with
          | p => exact .inl rfl
          | s => exact .inr ⟨rfl, hkk⟩
          | w => rw [hkj] at h4; cases h4
          | x => rw [hkj] at h4; cases h4
        · exact wp_any_mono h fun a' w' ⟨hc, hh⟩ => ⟨hc, next _ _ _ hc hh⟩
      | x =>
        rw [hkk] at h
        refine first_w (D := dset md ops k) h0 hsel (fun _ => false) (fun m => .inr ⟨hkk, rfl⟩) l.length listed m a w hC hW (fun j oj hj hne hjD hun => ?_) hr' hw ?_
        · have h3 := hA' j oj hj hne hjD hun
          refine ⟨h3.1, ?_⟩
          have h4 := h3.2
          rw [hkk] at h4
          cases hkj : kl.getD j .p with
          | p => exact .inl rfl
          | s => rw [hkj] at h4; cases h4
          | w => rw [hkj] at h4; cases h4
          | x => rw [hkj] at h4; cases h4
        · exact wp_any_mono h fun a' w' hh => ⟨(fun e => by cases e), next _ _ _ (fun e => by cases e) hh⟩
    · rw [if_neg hw] at h
      have hw' : Region.wanted o (yielded ops a.tmps) = false := by simpa using hw
      refine first_s (Y := fun a => Region.wanted o (yielded ops a.tmps) = false) (A := fun _ => True) (v := undef) (D := dset md ops k) h0 (fun _ _ hy _ hw => hw.trans hy) hsel (fun K m a w _ hc hy hk => ?_) l.length listed m a w trivial hC hW (fun j oj hj hne hjD hun => ⟨(hA j oj hj hne hjD hun).1, fun _ => trivial⟩) hr' hw' (next _ _ _ hC h)
      unfold opA
      simp only [h0]
      rw [if_neg (by rw [hy]; simp)]
      exact hk
theorem wp_region_mix {id : Nat} {Q : Exit → Act → World → Prop} {a : Act} {w : World} {l : List Oper} (C : World → Prop) (kl : List Kind) (hm : P.follows .mixedOrders = true) (hB : lexB .any l.toArray kl = true)
    (hC : C w.drew) (h : wpLex P l.toArray C (fun a' w' => Q .normal a' w') l kl true a w.drew) : (Code.region id l.toArray true).wp P Q a w := by
  simp only [lexB, Bool.and_eq_true] at hB
  refine wp_region_any hm (wpAny_of_A (C := C) (ks := fun i => kl.getD i .p) (Q := fun a' w' => Q .normal a' w') (fun _ _ h => h) _ _ true _ _ (fun _ => hC) ?_)
  have := wpA_lex (C := C) (md := .any) (kl := kl) hB.1 l kl 0 (Array.replicate l.toArray.size false) true a w.drew (fun _ => hC) (by simp) (by simp) (by simpa using hB.2) h
  simpa using this
section
variable {o : Oper} {rest : List Oper} {kt : List Kind} {m : Bool} {a : Act} {w : World}
theorem lex_nil (h : Q a w) : wpLex P ops C Q [] kt m a w := h
theorem wp_of_list {K : Act → World → Prop} (hw : Region.wanted o (yielded ops a.tmps) = true) (h : wpList P ops (Exit.then K NoX) [o] a w) : o.wp P a w K NoX := by
  simp only [wpList] at h
  rw [if_pos hw] at h
  rcases h with h1 | h1
  · unfold Oper.wp at *
    generalize (execOp a.eval o).run P w = r at *
    cases r with
    | ok n w' =>
      cases n <;> simp only [Oper.upon] at h1 ⊢
      case value v => exact h1
      case skip => exact h1
      case defer d => exact h1
      case enter f args =>
        refine Calls.mono h1 fun e w'' hr => ?_
        cases e with
        | returned v => exact hr
        | panicked c => exact hr.elim
        | outgrown =>
          obtain ⟨_, _, hr⟩ := hr
          exact hr.elim
      case row row args => exact Rows.mono h1 fun _ _ hr => hr
    | halt x w' => cases x <;> simp only [Oper.upon] at h1 ⊢ <;> exact h1
  · obtain ⟨_, _, _, h1⟩ := h1
    exact h1.elim
theorem lex_w (h : ∀ K : Act → World → Prop, (∀ a w, C w → wpLex P ops C Q rest kt true a w → K a w) → wpList P ops (Exit.then K NoX) [o] a w) : wpLex P ops C Q (o :: rest) (.w :: kt) true a w := by
  have h1 := h (fun a w => C w ∧ wpLex P ops C Q rest kt true a w) (fun _ _ h1 h2 => ⟨h1, h2⟩)
  simp only [wpLex, List.headD_cons, List.tail_cons]
  split
  · rename_i hw
    exact wp_any_mono (wp_of_list hw h1) fun _ _ h => ⟨fun _ => h.1, h.2⟩
  · rename_i hw
    simp only [wpList, if_neg hw, Exit.then] at h1
    exact h1.2
theorem lex_x (h : ∀ K : Act → World → Prop, (∀ m a w, wpLex P ops C Q rest kt m a w → K a w) → wpList P ops (Exit.then K NoX) [o] a w)
    (hmode : ∀ m m' a w, wpLex P ops C Q rest kt m a w → wpLex P ops C Q rest kt m' a w) : wpLex P ops C Q (o :: rest) (.x :: kt) m a w := by
  have h1 := h (fun a w => wpLex P ops C Q rest kt false a w) (fun m' a w h => hmode _ _ _ _ h)
  simp only [wpLex, List.headD_cons, List.tail_cons]
  split
  · rename_i hw
    exact wp_of_list hw h1
  · rename_i hw
    simp only [wpList, if_neg hw, Exit.then] at h1
    exact hmode _ _ _ _ h1
end
theorem lex_mode : ∀ (l : List Oper) (kt : List Kind), (kt.all fun k => k == .p || k == .x) = true → ∀ m m' a w, wpLex P ops C Q l kt m a w → wpLex P ops C Q l kt m' a w
  | [], _, _, _, _, _, _, h => h
  | o :: l, kt, hk, m, m', a, w, h => by
    have hk' : (kt.tail.all fun k => k == .p || k == .x) = true := by
      cases kt with
      | nil => rfl
      | cons kd xs => simp only [List.all_cons, Bool.and_eq_true] at hk; exact hk.2
    have ih := lex_mode l kt.tail hk'
    simp only [wpLex] at h ⊢
    split at h
    · rename_i hw
      rw [if_pos hw]
      have h0 : kt.headD .p = .p ∨ kt.headD .p = .x := by
        cases kt with
        | nil => exact .inl rfl
        | cons kd xs =>
          simp only [List.all_cons, Bool.and_eq_true, Bool.or_eq_true, beq_iff_eq] at hk
          exact hk.1
      rcases h0 with h0 | h0
      · rw [h0] at h ⊢
        obtain ⟨v, hv, hn⟩ := h
        exact ⟨v, hv, ih _ _ _ _ hn⟩
      · rw [h0] at h ⊢
        exact h
    · rename_i hw
      rw [if_neg hw]
      exact ih _ _ _ _ h
theorem map_run {α : Type} {s : Sem α} {f : α → Next} {w w' : World} {n : Next} (h : (s >>= fun a => pure (f a)).run P w = .ok n w') : ∃ a, n = f a := by
  rw [Sem.run_bind] at h
  cases hs : s.run P w with
  | ok a w1 =>
    rw [hs] at h
    simp only [Result.andThen, Sem.run_pure, Result.ok.injEq] at h
    exact ⟨a, h.1.symm⟩
  | halt x w1 =>
    rw [hs] at h
    simp only [Result.andThen] at h
    cases h
def plainOp : Op → Bool
  | .move _ | .assign _ | .pick .. | .load .. | .fieldAddr .. | .field .. | .indexAddr .. | .index .. | .extract .. | .unOp .. | .binOp .. | .build .. | .slice .. | .convert .. | .makeInterface .. | .lookup .. | .nilCheck _ => true
  | .call c => match c.callee with
    | .builtin .len | .builtin .cap | .builtin .min | .builtin .max => true
    | _ => false
  | _ => false
theorem plain_run {o : Oper} {ρ : Operand → Value} {w w' : World} {f : FuncId} {args : Array Value} (hp : plainOp o.op = true) (h : (execOp ρ o).run P w = .ok (.enter f args) w') : False := by
  obtain ⟨dst, op, type, pos, after, guard⟩ := o
  cases op <;> simp only [plainOp, Bool.false_eq_true] at hp
  case move => simp only [execOp, Sem.run_pure, Result.ok.injEq] at h; cases h.1
  case assign => simp only [execOp, Sem.run_pure, Result.ok.injEq] at h; cases h.1
  case nilCheck x =>
    simp only [execOp] at h
    split at h
    case h_1 => simp [runtimePanic, goPanic, go_sem] at h
    case h_2 => simp [runtimePanic, goPanic, go_sem] at h
    case h_3 => simp [runtimePanic, goPanic, go_sem] at h
    case h_4 =>
      split at h
      · simp [runtimePanic, goPanic, go_sem] at h
      · rename_i nm _ _ _ _ t v _
        rw [Sem.run_bind] at h
        cases hp1 : (program).run P w with
        | ok p1 w1 =>
          rw [hp1] at h
          simp only [Result.andThen] at h
          rw [Sem.run_bind] at h
          cases hn : (nilAhead (p1.types.size + Made.depth) t v nm).run P w1 with
          | ok q w2 =>
            rw [hn] at h
            simp only [Result.andThen] at h
            split at h
            · simp [go_sem] at h
            · simp only [Sem.run_pure, Result.ok.injEq] at h; cases h.1
          | halt q w2 =>
            rw [hn] at h
            simp only [Result.andThen] at h
            cases h
        | halt q w1 =>
          rw [hp1] at h
          simp only [Result.andThen] at h
          cases h
      · simp only [Sem.run_pure, Result.ok.injEq] at h; cases h.1
    case h_5 => simp only [Sem.run_pure, Result.ok.injEq] at h; cases h.1
  case call c =>
    obtain ⟨callee, args', argTypes⟩ := c
    cases callee with
    | builtin b =>
      cases b <;> simp only [Bool.false_eq_true] at hp
      all_goals
        simp only [execOp, resolve, invoke, builtin, Sem.run_bind, Sem.run_pure, Result.andThen] at h
        split at h <;> cases h
    | value f => cases hp
    | invoke r m => cases hp
  all_goals (obtain ⟨a, ha⟩ := map_run h; cases ha)
theorem still_of_quiet {o : Oper} {a : Act} {K : Act → Prop} (hp : plainOp o.op = true) (h : o.quiet P a C K) : still P C o a K := by
  obtain ⟨v, hv, hk⟩ := h
  refine ⟨v, fun w hw => ?_, hk⟩
  have h1 := hv w hw
  unfold Oper.quietAt at h1
  unfold stillAt
  have hn := @plain_run P o a.eval w
  generalize (execOp a.eval o).run P w = r at *
  cases r with
  | ok n w' =>
    cases n <;> simp only [Oper.quietUpon] at h1 <;> simp only [stillUpon]
    case value u => exact h1
    case skip => exact h1
    case enter f args => exact hn hp rfl
  | halt x w' => simp only [Oper.quietUpon] at h1
theorem lex_q (n : Nat) : ∀ (l : List Oper) (kt : List Kind) (a : Act) (w : World), ((kt.take n).length == n && (kt.take n).all (· == .s) && (l.take n).all (fun o => plainOp o.op)) = true →
    wpQuiet P ops C (fun a' => wpLex P ops C Q (l.drop n) (kt.drop n) true a' w) (l.take n) a → wpLex P ops C Q l kt true a w := by
  induction n with
  | zero => exact fun l kt a w _ h => h
  | succ n ih =>
    intro l kt a w hb h
    cases kt with
    | nil => simp at hb
    | cons kd kt =>
      simp only [List.take_succ_cons, List.length_cons, List.all_cons, Bool.and_eq_true, beq_iff_eq] at hb
      obtain ⟨⟨hl, hk, hks⟩, hp⟩ := hb
      cases l with
      | nil => exact h
      | cons o l =>
        simp only [List.take_succ_cons, List.all_cons, Bool.and_eq_true] at hp
        simp only [List.take_succ_cons, List.drop_succ_cons, wpQuiet] at h
        have ih' := fun a w => ih l kt a w (by simp only [Bool.and_eq_true, beq_iff_eq]; exact ⟨⟨by omega, hks⟩, hp.2⟩)
        subst hk
        simp only [wpLex, List.headD_cons, List.tail_cons]
        split
        · rename_i hw
          rw [if_pos hw] at h
          refine ⟨rfl, still_of_quiet hp.1 ?_⟩
          obtain ⟨v, hv, hk⟩ := h
          exact ⟨v, hv, ih' _ _ hk⟩
        · rename_i hw
          rw [if_neg hw] at h
          exact ih' _ _ h
theorem lex_qp (n : Nat) : ∀ (l : List Oper) (kt : List Kind) (m : Bool) (a : Act) (w : World), ((kt.take n).length == n && (kt.take n).all (· == .p) && (l.take n).all (fun o => plainOp o.op)) = true →
    wpQuiet P ops (fun _ => True) (fun a' => wpLex P ops C Q (l.drop n) (kt.drop n) m a' w) (l.take n) a → wpLex P ops C Q l kt m a w := by
  induction n with
  | zero => exact fun l kt m a w _ h => h
  | succ n ih =>
    intro l kt m a w hb h
    cases kt with
    | nil => simp at hb
    | cons kd kt =>
      simp only [List.take_succ_cons, List.length_cons, List.all_cons, Bool.and_eq_true, beq_iff_eq] at hb
      obtain ⟨⟨hl, hk, hks⟩, hp⟩ := hb
      cases l with
      | nil => exact h
      | cons o l =>
        simp only [List.take_succ_cons, List.all_cons, Bool.and_eq_true] at hp
        simp only [List.take_succ_cons, List.drop_succ_cons, wpQuiet] at h
        have ih' := fun a w => ih l kt m a w (by simp only [Bool.and_eq_true, beq_iff_eq]; exact ⟨⟨by omega, hks⟩, hp.2⟩)
        subst hk
        simp only [wpLex, List.headD_cons, List.tail_cons]
        split
        · rename_i hw
          rw [if_pos hw] at h
          obtain ⟨v, hv, hk⟩ := h
          exact still_of_quiet (C := any) (K := fun a' => wpLex P ops C Q l kt m a' w) hp.1 ⟨v, hv, ih' _ _ hk⟩
        · rename_i hw
          rw [if_neg hw] at h
          exact ih' _ _ h
structure In (C0 : World → Prop) where
  w : World
  h : C0 w
theorem cls_mk {C0 : World → Prop} {w : World} (h : C0 w) : (fun w' => ∃ m : In C0, w' = m.w) w := ⟨⟨w, h⟩, rfl⟩
structure On (p : Prop) : Prop where mk :: (out : p)
theorem region {id : Nat} {Q : Exit → Act → World → Prop} {a : Act} {w : World} {l : List Oper} (C0 : World → Prop) (kl : List Kind) (hm : P.follows .mixedOrders = true) (hB : lexB .any l.toArray kl = true)
    (hC : C0 w.drew) (h : Nonempty (In C0) → wpLex P l.toArray (fun w' => ∃ m : In C0, w' = m.w) (fun a' w' => Q .normal a' w') l kl true a w.drew) : (Code.region id l.toArray true).wp P Q a w :=
  wp_region_mix _ kl hm hB (cls_mk hC) (h ⟨⟨_, hC⟩⟩)
theorem step_w {C0 : World → Prop} {o : Oper} {rest : List Oper} {kt : List Kind} {a : Act} {w : World} (h : ∀ K : Act → World → Prop, On (∀ a w, C0 w → wpLex P ops (fun w' => ∃ m : In C0, w' = m.w) Q rest kt true a w → K a w) → wpList P ops (Exit.then K NoX) [o] a w) : wpLex P ops (fun w' => ∃ m : In C0, w' = m.w) Q (o :: rest) (.w :: kt) true a w :=
  lex_w fun K hK => h K ⟨fun a w hc hh => hK a w (cls_mk hc) hh⟩
theorem step_x {o : Oper} {rest : List Oper} {kt : List Kind} {m : Bool} {a : Act} {w : World} (hk : (kt.all fun k => k == .p || k == .x) = true) (h : ∀ K : Act → World → Prop, On (∀ a w, wpLex P ops C Q rest kt true a w → K a w) → wpList P ops (Exit.then K NoX) [o] a w) : wpLex P ops C Q (o :: rest) (.x :: kt) m a w :=
  lex_x (fun K hK => h K ⟨fun a w hh => hK true a w hh⟩) (lex_mode rest kt hk)
end Go.Reg
end
section
namespace Go.Rg
set_option linter.unusedVariables false
set_option linter.unusedSimpArgs false
open Go Go.Reg
variable {P : Program} {ops : Array Oper} {md : Region.Mode} {C : World → Prop} {R : World → World → Prop} {Q : Act → World → Prop}
inductive Kind where
  | p | s | r | v | w | x
  deriving DecidableEq
def opK (P : Program) (C : World → Prop) (R : World → World → Prop) (m : Bool) (g : World) (k : Kind) (o : Oper) (K : Bool → World → Act → World → Prop) (a : Act) (w : World) : Prop :=
  match k with
  | .p => still P any o a (fun a' => K m g a' w)
  | .s => m = true ∧ still P C o a (fun a' => K m g a' w)
  | .r => m = true ∧ still P (fun x => C x ∧ R g x) o a (fun a' => K m g a' w)
  | .v => o.wp P a w (fun a' w' => (cm C m w' ∧ (m = true → R w w')) ∧ K m g a' w') NoX
  | .w => o.wp P a w (fun a' w' => (cm C m w' ∧ (m = true → R w w')) ∧ K m w' a' w') NoX
  | .x => o.wp P a w (fun a' w' => K false g a' w') NoX
def wpLex (P : Program) (ops : Array Oper) (C : World → Prop) (R : World → World → Prop) (Q : Act → World → Prop) : List Oper → List Kind → Bool → World → Act → World → Prop
  | [], _, _, _, a, w => Q a w
  | o :: rest, ks, m, g, a, w =>
    if Region.wanted o (yielded ops a.tmps) then opK P C R m g (ks.headD .p) o (fun m' g' a' w' => wpLex P ops C R Q rest ks.tail m' g' a' w') a w
    else wpLex P ops C R Q rest ks.tail m g (a.put o.dst undef) w
variable {ks : Nat → Kind}
def opA (P : Program) (ops : Array Oper) (C : World → Prop) (R : World → World → Prop) (ks : Nat → Kind) (m : Bool) (g : World) (i : Nat) (K : Bool → World → Act → World → Prop) (a : Act) (w : World) : Prop :=
  match ops[i]? with
  | none => K m g a w
  | some o => if Region.wanted o (yielded ops a.tmps) then opK P C R m g (ks i) o K a w else K m g (a.put o.dst undef) w
def wpA (P : Program) (md : Region.Mode) (ops : Array Oper) (C : World → Prop) (R : World → World → Prop) (ks : Nat → Kind) (Q : Act → World → Prop) : Nat → Array Bool → Bool → World → Act → World → Prop
  | 0, listed, _, _, a, w => Region.ready md ops listed = [] ∧ Q a w
  | fuel + 1, listed, m, g, a, w =>
    (Region.ready md ops listed = [] → Q a w) ∧ ∀ i ∈ Region.ready md ops listed, opA P ops C R ks m g i (wpA P md ops C R ks Q fuel (listed.setIfInBounds i true)) a w
def J (C : World → Prop) (R : World → World → Prop) (m : Bool) (g w : World) : Prop := cm C m w ∧ (m = true → R g w)
theorem opK_wp {m : Bool} {g : World} {k : Kind} {o : Oper} {K : Bool → World → Act → World → Prop} {K' : Act → World → Prop} {a : Act} {w : World} {Q' : Exit → Act → World → Prop} (hrr : ∀ w, R w w) (hrt : ∀ x y z, R x y → R y z → R x z) (hC : J C R m g w) (h : opK P C R m g k o K a w) (hk : ∀ m' g' a' w', J C R m' g' w' → K m' g' a' w' → K' a' w') : o.wp P a w K' Q' := by
  cases k with
  | p =>
    obtain ⟨v, hv, h⟩ := h
    exact wp_of_still (hv w trivial) (hk _ _ _ _ hC h)
  | s =>
    obtain ⟨hm, v, hv, h⟩ := h
    exact wp_of_still (hv w (hC.1 hm)) (hk _ _ _ _ hC h)
  | r =>
    obtain ⟨hm, v, hv, h⟩ := h
    exact wp_of_still (hv w ⟨hC.1 hm, hC.2 hm⟩) (hk _ _ _ _ hC h)
  | v => exact wp_any_mono h fun a' w' ⟨hc, hh⟩ => hk _ _ _ _ ⟨hc.1, fun e => hrt _ _ _ (hC.2 e) (hc.2 e)⟩ hh
  | w => exact wp_any_mono h fun a' w' ⟨hc, hh⟩ => hk _ _ _ _ ⟨hc.1, fun _ => hrr _⟩ hh
  | x => exact wp_any_mono h fun a' w' hh => hk _ _ _ _ ⟨(fun e => by cases e), (fun e => by cases e)⟩ hh
theorem wpAny_of_A {Q' : Exit → Act → World → Prop} (hrr : ∀ w, R w w) (hrt : ∀ x y z, R x y → R y z → R x z) (hQ : ∀ a w, Q a w → Q' .normal a w) : ∀ (fuel : Nat) (listed : Array Bool) (m : Bool) (g : World) (a : Act) (w : World), J C R m g w →
    wpA P md ops C R ks Q fuel listed m g a w → wpAny P md ops Q' fuel listed a w
  | 0, _, _, _, _, _, _, h => ⟨h.1, hQ _ _ h.2⟩
  | fuel + 1, listed, m, g, a, w, hC, h => by
    refine ⟨fun h0 => hQ _ _ (h.1 h0), fun i hi => ?_⟩
    have h1 := h.2 i hi
    unfold opA at h1
    unfold wpOp
    split
    · rename_i ho; simp only [ho] at h1; exact wpAny_of_A hrr hrt hQ fuel _ _ _ _ _ hC h1
    · rename_i o ho
      simp only [ho] at h1
      split
      · rename_i hw
        simp only [hw, if_true] at h1
        exact .inl (opK_wp hrr hrt hC h1 fun m' g' a' w' hc hk => wpAny_of_A hrr hrt hQ fuel _ _ _ _ _ hc hk)
      · rename_i hw
        simp only [hw] at h1
        exact wpAny_of_A hrr hrt hQ fuel _ _ _ _ _ hC h1
theorem first_s {Y : Act → Prop} {A : Bool → Prop} {i : Nat} {oi : Oper} {v : Value} {D : List Nat} (I : Bool → World → World → Prop) (hIw : ∀ m g w w', I m g w → cm C m w' → (m = true → R w w') → I m w' w') (hIv : ∀ m g w w', I m g w → cm C m w' → (m = true → R w w') → I m g w') (hIx : ∀ g w, I false g w) (hi : ops[i]? = some oi)
    (hsame : ∀ a a', Y a → execOp a'.eval oi = execOp a.eval oi → Region.wanted oi (yielded ops a'.tmps) = Region.wanted oi (yielded ops a.tmps) → Y a') (hsel : ∀ (j : Nat) (o : Oper) cs b, ops[j]? = some o → o.op ≠ .select cs b)
    (hown : ∀ (K : Bool → World → Act → World → Prop) (m : Bool) (g : World) (a : Act) (w : World), A m → I m g w → Y a → K m g (a.put oi.dst v) w → opA P ops C R ks m g i K a w) :
    ∀ (fuel : Nat) (listed : Array Bool) (m : Bool) (g : World) (a : Act) (w : World), A m → I m g w → Waits md ops listed i D →
      (∀ j oj, ops[j]? = some oj → j ≠ i → j ∉ D → listed.getD j true = false → oi.apart ops oj = true ∧ (ks j = .x → A false)) →
      i ∈ Region.ready md ops listed → Y a → wpA P md ops C R ks Q fuel (listed.setIfInBounds i true) m g (a.put oi.dst v) w → wpA P md ops C R ks Q (fuel + 1) listed m g a w := by
  intro fuel
  induction fuel with
  | zero =>
    intro listed m g a w hA hC hD _ hr hy H
    refine ⟨fun h => (by rw [h] at hr; cases hr), fun j hj => ?_⟩
    by_cases hji : j = i
    · subst hji; exact hown _ _ _ _ _ hA hC hy H
    · have := ready_mono hj hji
      rw [H.1] at this
      cases this
  | succ fuel ih =>
    intro listed m g a w hA hC hD hfree hr hy H
    refine ⟨fun h => (by rw [h] at hr; cases hr), fun j hj => ?_⟩
    by_cases hji : j = i
    · subst hji; exact hown _ _ _ _ _ hA hC hy H
    · have h1 := H.2 j (ready_mono hj hji)
      obtain ⟨hjun, oj, hoj, hall⟩ := mem_ready.1 hj
      have hjD := hD.not_ready (mem_ready.1 hr).1 hj
      obtain ⟨hap, hjx⟩ := hfree j oj hoj hji hjD hjun
      obtain ⟨e1, e2, e3⟩ := Oper.apart_spec hap
      have hsi := fun cs b => hsel i oi cs b hi
      have hsj := fun cs b => hsel j oj cs b hoj
      have hx : execOp (a.put oi.dst v).eval oj = execOp a.eval oj := execOp_put oj hsj a oi.dst v e1
      have hwt := wanted_put (ops := ops) oj a oi.dst v e1
      have hfree' : ∀ k ok, ops[k]? = some ok → k ≠ i → k ∉ D → (listed.setIfInBounds j true).getD k true = false → oi.apart ops ok = true ∧ (ks k = .x → A false) := fun k ok hk hki hkD hun => by
        refine hfree k ok hk hki hkD ?_
        by_cases hjk : j = k
        · subst hjk; exact hjun
        · rw [getD_set_ne true hjk] at hun; exact hun
      have go : ∀ m1 g1 a1 w1, A m1 → I m1 g1 w1 → Y a1 → wpA P md ops C R ks Q fuel ((listed.setIfInBounds i true).setIfInBounds j true) m1 g1 (a1.put oi.dst v) w1 → wpA P md ops C R ks Q (fuel + 1) (listed.setIfInBounds j true) m1 g1 a1 w1 := fun m1 g1 a1 w1 hA1 hc1 hy1 hh => by
        refine ih _ m1 g1 a1 w1 hA1 hc1 (hD.step hjD) hfree' (ready_mono hr (Ne.symm hji)) hy1 ?_
        rw [Array.setIfInBounds_comm _ _ hji]
        exact hh
      have keep : ∀ u, Y (a.put oj.dst u) := fun u => hsame _ _ hy (execOp_put oi hsi a oj.dst u e3) (wanted_put oi a oj.dst u e3)
      have keepd : ∀ d, Y (Act.put { a with defers := d :: a.defers } oj.dst undef) := fun d => hsame _ _ hy (execOp_put oi hsi { a with defers := d :: a.defers } oj.dst undef e3) (wanted_put oi { a with defers := d :: a.defers } oj.dst undef e3)
      have comm : ∀ u, (a.put oi.dst v).put oj.dst u = (a.put oj.dst u).put oi.dst v := fun u => Act.put_comm _ v u e2
      have commd : ∀ d, Act.put { a.put oi.dst v with defers := d :: (a.put oi.dst v).defers } oj.dst undef = (Act.put { a with defers := d :: a.defers } oj.dst undef).put oi.dst v := fun d => by
        rw [Act.put_defers]
        exact Act.put_comm _ v undef e2
      have stl : ∀ (E : World → Prop) (K K' : Act → Prop), still P E oj (a.put oi.dst v) K → (∀ u, K ((a.put oj.dst u).put oi.dst v) → K' (a.put oj.dst u)) → still P E oj a K' := fun E K K' h hk => by
        obtain ⟨u, hu, hn⟩ := h
        refine ⟨u, fun w' hw' => ?_, hk u (by rw [← comm]; exact hn)⟩
        have := hu w' hw'
        unfold stillAt at *
        rwa [hx] at this
      unfold opA at h1 ⊢
      simp only [hoj] at h1 ⊢
      rw [hwt] at h1
      split at h1
      · rename_i hw
        rw [if_pos hw]
        cases hkj : ks j with
        | p =>
          rw [hkj] at h1
          have h2 : still P any oj (a.put oi.dst v) (fun a' => wpA P md ops C R ks Q fuel ((listed.setIfInBounds i true).setIfInBounds j true) m g a' w) := h1
          refine stl any _ (fun a' => wpA P md ops C R ks Q (fuel + 1) (listed.setIfInBounds j true) m g a' w) h2 fun u hn => ?_
          exact go _ _ _ _ hA hC (keep u) hn
        | s =>
          rw [hkj] at h1
          have h2 : still P C oj (a.put oi.dst v) (fun a' => wpA P md ops C R ks Q fuel ((listed.setIfInBounds i true).setIfInBounds j true) m g a' w) := h1.2
          refine ⟨h1.1, stl C _ (fun a' => wpA P md ops C R ks Q (fuel + 1) (listed.setIfInBounds j true) m g a' w) h2 fun u hn => ?_⟩
          exact go _ _ _ _ hA hC (keep u) hn
        | r =>
          rw [hkj] at h1
          have h2 : still P (fun x => C x ∧ R g x) oj (a.put oi.dst v) (fun a' => wpA P md ops C R ks Q fuel ((listed.setIfInBounds i true).setIfInBounds j true) m g a' w) := h1.2
          refine ⟨h1.1, stl (fun x => C x ∧ R g x) _ (fun a' => wpA P md ops C R ks Q (fuel + 1) (listed.setIfInBounds j true) m g a' w) h2 fun u hn => ?_⟩
          exact go _ _ _ _ hA hC (keep u) hn
        | v =>
          rw [hkj] at h1
          refine wp_to hx.symm h1 (fun u w1 ⟨hc1, hh⟩ => ⟨hc1, ?_⟩) (fun d w1 ⟨hc1, hh⟩ => ⟨hc1, ?_⟩)
          · refine go _ _ _ _ hA (hIv _ _ _ _ hC hc1.1 hc1.2) (keep u) ?_
            rw [← comm]
            exact hh
          · refine go _ _ _ _ hA (hIv _ _ _ _ hC hc1.1 hc1.2) (keepd d) ?_
            rw [← commd]
            exact hh
        | w =>
          rw [hkj] at h1
          refine wp_to hx.symm h1 (fun u w1 ⟨hc1, hh⟩ => ⟨hc1, ?_⟩) (fun d w1 ⟨hc1, hh⟩ => ⟨hc1, ?_⟩)
          · refine go _ _ _ _ hA (hIw _ _ _ _ hC hc1.1 hc1.2) (keep u) ?_
            rw [← comm]
            exact hh
          · refine go _ _ _ _ hA (hIw _ _ _ _ hC hc1.1 hc1.2) (keepd d) ?_
            rw [← commd]
            exact hh
        | x =>
          rw [hkj] at h1
          refine wp_to hx.symm h1 (fun u w1 hh => ?_) (fun d w1 hh => ?_)
          · refine go _ _ _ _ (hjx hkj) (hIx _ _) (keep u) ?_
            rw [← comm]
            exact hh
          · refine go _ _ _ _ (hjx hkj) (hIx _ _) (keepd d) ?_
            rw [← commd]
            exact hh
      · rename_i hw
        rw [if_neg hw]
        refine go _ _ _ _ hA hC (keep undef) ?_
        rw [← comm]
        exact h1
theorem first_w {i : Nat} {oi : Oper} {D : List Nat} (hrt : ∀ x y z, R x y → R y z → R x z) (hi : ops[i]? = some oi) (hsel : ∀ (j : Nat) (o : Oper) cs b, ops[j]? = some o → o.op ≠ .select cs b) (mi : Bool → Bool) (gi : World → World → World) (hmi : ∀ m, (ks i = .w ∧ mi m = m ∧ gi = fun _ w => w) ∨ (ks i = .v ∧ mi m = m ∧ gi = fun g _ => g) ∨ (ks i = .x ∧ mi m = false ∧ gi = fun g _ => g)) :
    ∀ (fuel : Nat) (listed : Array Bool) (m : Bool) (g : World) (a : Act) (w : World), J C R m g w → Waits md ops listed i D →
      (∀ j oj, ops[j]? = some oj → j ≠ i → j ∉ D → listed.getD j true = false → oi.apart ops oj = true ∧ (ks j = .p ∨ (ks j = .s ∧ ks i ≠ .x) ∨ (ks j = .r ∧ ks i = .v))) →
      i ∈ Region.ready md ops listed → Region.wanted oi (yielded ops a.tmps) = true → oi.wp P a w (fun a' w' => (cm C (mi m) w' ∧ (mi m = true → R w w')) ∧ wpA P md ops C R ks Q fuel (listed.setIfInBounds i true) (mi m) (gi g w') a' w') NoX → wpA P md ops C R ks Q (fuel + 1) listed m g a w := by
  have own : ∀ (K : Bool → World → Act → World → Prop) (m : Bool) (g : World) (a : Act) (w : World), Region.wanted oi (yielded ops a.tmps) = true → oi.wp P a w (fun a' w' => (cm C (mi m) w' ∧ (mi m = true → R w w')) ∧ K (mi m) (gi g w') a' w') NoX → opA P ops C R ks m g i K a w := fun K m g a w hw h => by
    unfold opA
    simp only [hi, hw, if_true]
    rcases hmi m with ⟨hk, hm, hg⟩ | ⟨hk, hm, hg⟩ | ⟨hk, hm, hg⟩
    · rw [hk]
      rw [hm, hg] at h
      exact h
    · rw [hk]
      rw [hm, hg] at h
      exact h
    · rw [hk]
      rw [hm, hg] at h
      exact wp_any_mono h fun _ _ h => h.2
  intro fuel
  induction fuel with
  | zero =>
    intro listed m g a w hC hD _ hr hw H
    refine ⟨fun h => (by rw [h] at hr; cases hr), fun j hj => ?_⟩
    by_cases hji : j = i
    · subst hji; exact own _ _ _ _ _ hw H
    · obtain ⟨a1, w1, _, _, h1⟩ := wp_exists H
      have := ready_mono hj hji
      rw [h1.1] at this
      cases this
  | succ fuel ih =>
    intro listed m g a w hC hD hfree hr hw H
    refine ⟨fun h => (by rw [h] at hr; cases hr), fun j hj => ?_⟩
    by_cases hji : j = i
    · subst hji; exact own _ _ _ _ _ hw H
    · obtain ⟨hjun, oj, hoj, hall⟩ := mem_ready.1 hj
      have hjD := hD.not_ready (mem_ready.1 hr).1 hj
      obtain ⟨hap, hkj⟩ := hfree j oj hoj hji hjD hjun
      obtain ⟨e1, e2, e3⟩ := Oper.apart_spec hap
      have hsi := fun cs b => hsel i oi cs b hi
      have hsj := fun cs b => hsel j oj cs b hoj
      have hfree' : ∀ k ok, ops[k]? = some ok → k ≠ i → k ∉ D → (listed.setIfInBounds j true).getD k true = false → oi.apart ops ok = true ∧ (ks k = .p ∨ (ks k = .s ∧ ks i ≠ .x) ∨ (ks k = .r ∧ ks i = .v)) := fun k ok hk hki hkD hun => by
        refine hfree k ok hk hki hkD ?_
        by_cases hjk : j = k
        · subst hjk; exact hjun
        · rw [getD_set_ne true hjk] at hun; exact hun
      obtain ⟨CC, hCC, hfrom, hto⟩ : ∃ CC : World → Prop, (∀ w', cm C (mi m) w' → (mi m = true → R w w') → CC w' ∨ ks j ≠ .p ∧ mi m = false) ∧
          (∀ (K : Bool → World → Act → World → Prop) a' w' w1, opA P ops C R ks (mi m) (gi g w1) j K a' w' → ∃ u, YC P ops CC oj u a' ∧ (ks j ≠ .p ∧ mi m = false → Region.wanted oj (yielded ops a'.tmps) = false) ∧ K (mi m) (gi g w1) (a'.put oj.dst u) w') ∧
          (∀ (K : Bool → World → Act → World → Prop) a' w' u, YC P ops CC oj u a' → (ks j ≠ .p ∧ mi m = false → Region.wanted oj (yielded ops a'.tmps) = false) → K m g (a'.put oj.dst u) w' → opA P ops C R ks m g j K a' w') := by
        rcases hkj with hkj | ⟨hkj, hki⟩ | ⟨hkj, hki⟩
        · refine ⟨any, fun _ _ _ => .inl trivial, fun K a' w' w1 h => ?_, fun K a' w' u hu _ h => ?_⟩
          · unfold opA at h
            simp only [hoj, hkj] at h
            by_cases hwj : Region.wanted oj (yielded ops a'.tmps) = true
            · rw [if_pos hwj] at h
              obtain ⟨u, hu, hn⟩ := h
              exact ⟨u, .inl ⟨hwj, hu⟩, (fun hc => absurd hkj hc.1), hn⟩
            · rw [if_neg hwj] at h
              exact ⟨undef, .inr ⟨by simpa using hwj, rfl⟩, (fun hc => absurd hkj hc.1), h⟩
          · unfold opA
            simp only [hoj, hkj]
            rcases hu with ⟨hwj, hu⟩ | ⟨hwj, rfl⟩
            · rw [if_pos hwj]
              exact ⟨u, hu, h⟩
            · rw [if_neg (by rw [hwj]; simp)]
              exact h
        · have hmm : mi m = m := by
            rcases hmi m with ⟨_, h, _⟩ | ⟨_, h, _⟩ | ⟨h, _⟩
            · exact h
            · exact h
            · exact absurd h hki
          refine ⟨C, fun w' hc _ => ?_, fun K a' w' w1 h => ?_, fun K a' w' u hu hno h => ?_⟩
          · cases hmb : mi m with
            | true => exact .inl (hc hmb)
            | false => exact .inr ⟨by rw [hkj]; decide, rfl⟩
          · unfold opA at h
            simp only [hoj, hkj] at h
            by_cases hwj : Region.wanted oj (yielded ops a'.tmps) = true
            · rw [if_pos hwj] at h
              obtain ⟨hmt, u, hu, hn⟩ := h
              refine ⟨u, .inl ⟨hwj, hu⟩, (fun hc => ?_), hn⟩
              rw [hmt] at hc
              cases hc.2
            · rw [if_neg hwj] at h
              exact ⟨undef, .inr ⟨by simpa using hwj, rfl⟩, (fun _ => by simpa using hwj), h⟩
          · unfold opA
            simp only [hoj, hkj]
            rcases hu with ⟨hwj, hu⟩ | ⟨hwj, rfl⟩
            · rw [if_pos hwj]
              refine ⟨?_, u, hu, h⟩
              cases hmb : m with
              | true => rfl
              | false =>
                rw [hno ⟨by rw [hkj]; decide, by rw [hmm, hmb]⟩] at hwj
                cases hwj
            · rw [if_neg (by rw [hwj]; simp)]
              exact h
        · have hmm : mi m = m ∧ gi = fun g _ => g := by
            rcases hmi m with ⟨h, _⟩ | ⟨_, h⟩ | ⟨h, _⟩
            · rw [h] at hki; cases hki
            · exact h
            · rw [h] at hki; cases hki
          obtain ⟨hmm, hgg⟩ := hmm
          refine ⟨fun x => C x ∧ R g x, fun w' hc hr => ?_, fun K a' w' w1 h => ?_, fun K a' w' u hu hno h => ?_⟩
          · cases hmb : mi m with
            | true => exact .inl ⟨hc hmb, hrt _ _ _ (hC.2 (by rw [← hmm]; exact hmb)) (hr hmb)⟩
            | false => exact .inr ⟨by rw [hkj]; decide, rfl⟩
          · unfold opA at h
            simp only [hoj, hkj] at h
            by_cases hwj : Region.wanted oj (yielded ops a'.tmps) = true
            · rw [if_pos hwj] at h
              obtain ⟨hmt, u, hu, hn⟩ := h
              rw [hgg] at hu
              refine ⟨u, .inl ⟨hwj, hu⟩, (fun hc => ?_), hn⟩
              rw [hmt] at hc
              cases hc.2
            · rw [if_neg hwj] at h
              exact ⟨undef, .inr ⟨by simpa using hwj, rfl⟩, (fun _ => by simpa using hwj), h⟩
          · unfold opA
            simp only [hoj, hkj]
            rcases hu with ⟨hwj, hu⟩ | ⟨hwj, rfl⟩
            · rw [if_pos hwj]
              refine ⟨?_, u, hu, h⟩
              cases hmb : m with
              | true => rfl
              | false =>
                rw [hno ⟨by rw [hkj]; decide, by rw [hmm, hmb]⟩] at hwj
                cases hwj
            · rw [if_neg (by rw [hwj]; simp)]
              exact h
      obtain ⟨a1, w1, ho1, hc1, h1⟩ := wp_exists H
      obtain ⟨u, hu, hno, _⟩ := hfrom _ _ _ _ (h1.2 j (ready_mono hj hji))
      have hu' : YC P ops CC oj u a := hu.same (out_exec ho1 hsj e1).symm (out_wanted ho1 e1).symm
      have hno' : ks j ≠ .p ∧ mi m = false → Region.wanted oj (yielded ops a.tmps) = false := fun hc => by
        rw [← out_wanted ho1 e1]; exact hno hc
      refine hto _ _ _ u hu' hno' ?_
      refine ih _ _ _ _ w hC (hD.step hjD) hfree' (ready_mono hr (Ne.symm hji)) ?_ ?_
      · rw [wanted_put oi a oj.dst u e3]; exact hw
      · have fin : ∀ a2 w2, Out oi a a2 → (cm C (mi m) w2 ∧ (mi m = true → R w w2)) ∧ wpA P md ops C R ks Q (fuel + 1) (listed.setIfInBounds i true) (mi m) (gi g w2) a2 w2 → (cm C (mi m) w2 ∧ (mi m = true → R w w2)) ∧ wpA P md ops C R ks Q fuel ((listed.setIfInBounds j true).setIfInBounds i true) (mi m) (gi g w2) (a2.put oj.dst u) w2 := fun a2 w2 ho2 ⟨hc2, h2⟩ => by
          refine ⟨hc2, ?_⟩
          obtain ⟨u', hy', hno2, hk'⟩ := hfrom _ _ _ _ (h2.2 j (ready_mono hj hji))
          have hua := hu'.same (out_exec ho2 hsj e1) (out_wanted ho2 e1)
          have : u' = u := by
            rcases hCC w2 hc2.1 hc2.2 with hcc | hcc
            · exact hua.det hcc hcc hy'
            · have hn := hno2 hcc
              rcases hua with ⟨hwj, _⟩ | ⟨_, rfl⟩
              · rw [hn] at hwj; cases hwj
              · rcases hy' with ⟨hwj, _⟩ | ⟨_, rfl⟩
                · rw [hn] at hwj; cases hwj
                · rfl
          subst this
          rw [Array.setIfInBounds_comm _ _ hji]
          exact hk'
        refine wp_to (execOp_put oi hsi a oj.dst u e3) H (fun v w2 h2 => ?_) (fun d w2 h2 => ?_)
        · rw [← Act.put_comm _ v u (fun d hd he => e2 d hd he)]
          exact fin _ _ (.inl ⟨_, rfl⟩) h2
        · rw [Act.put_defers, ← Act.put_comm _ undef u (fun d hd he => e2 d hd he)]
          exact fin _ _ (.inr ⟨_, rfl⟩) h2
def fits (k j : Kind) : Bool :=
  match k, j with
  | .p, _ => true
  | .s, .x => false
  | .s, _ => true
  | .r, .x => false
  | .r, _ => true
  | .w, .p => true
  | .w, .s => true
  | .w, _ => false
  | .v, .p => true
  | .v, .s => true
  | .v, .r => true
  | .v, _ => false
  | .x, .p => true
  | .x, _ => false
def freeK (md : Region.Mode) (ops : Array Oper) (ks : Nat → Kind) (listed : Array Bool) (k : Nat) (D : List Nat) : Bool :=
  match ops[k]? with
  | none => true
  | some o =>
    D.all (fun j => !listed.getD j true && hasEdge md ops k D j) &&
    (List.range ops.size).all fun j => j == k || listed.getD j true || D.contains j ||
      (match ops[j]? with
       | none => true
       | some oj => o.apart ops oj && fits (ks k) (ks j))
def lexFrom (md : Region.Mode) (ops : Array Oper) (ks : Nat → Kind) : Nat → Nat → Array Bool → Bool
  | 0, _, listed => (Region.ready md ops listed).isEmpty
  | fuel + 1, k, listed => (Region.ready md ops listed).contains k && freeK md ops ks listed k (dset md ops k) && lexFrom md ops ks fuel (k + 1) (listed.setIfInBounds k true)
def lexB (md : Region.Mode) (ops : Array Oper) (ks : List Kind) : Bool := Region.noSelect ops && lexFrom md ops (fun i => ks.getD i .p) ops.size 0 (Array.replicate ops.size false)
theorem free_waits {k : Nat} {ok : Oper} {listed : Array Bool} {D : List Nat} (hk : ops[k]? = some ok) (h : freeK md ops ks listed k D = true) : Waits md ops listed k D := by
  intro j hj
  simp only [freeK, hk, Bool.and_eq_true, List.all_eq_true] at h
  have h1 := h.1 j hj
  simp only [Bool.not_eq_true'] at h1
  refine ⟨h1.1, ?_⟩
  have h2 := h1.2
  unfold hasEdge at h2
  split at h2
  · rename_i oj hoj
    obtain ⟨e, he, hb⟩ := Array.any_eq_true'.1 h2
    simp only [Bool.and_eq_true, Bool.or_eq_true, beq_iff_eq, List.contains_iff_mem] at hb
    exact ⟨oj, hoj, e, he, hb.1, hb.2⟩
  · cases h2
theorem free_apart {k : Nat} {ok : Oper} {listed : Array Bool} {D : List Nat} (hk : ops[k]? = some ok) (h : freeK md ops ks listed k D = true) (j : Nat) (oj : Oper) (hj : ops[j]? = some oj) (hne : j ≠ k) (hD : j ∉ D) (hun : listed.getD j true = false) :
    ok.apart ops oj = true ∧ fits (ks k) (ks j) = true := by
  simp only [freeK, hk, Bool.and_eq_true, List.all_eq_true, List.mem_range] at h
  have h1 := h.2 j (Array.getElem?_eq_some_iff.1 hj).1
  simpa only [hj, Bool.or_eq_true, beq_iff_eq, hne, false_or, hun, Bool.false_eq_true, List.contains_iff_mem, hD, Bool.and_eq_true] using h1
theorem wpA_lex {kl : List Kind} (hrr : ∀ w, R w w) (hrt : ∀ x y z, R x y → R y z → R x z) (hs : Region.noSelect ops = true) : ∀ (l : List Oper) (kt : List Kind) (k : Nat) (listed : Array Bool) (m : Bool) (g : World) (a : Act) (w : World), J C R m g w → (∀ j, l[j]? = ops[k + j]?) → (∀ j, kt.getD j .p = kl.getD (k + j) .p) →
    lexFrom md ops (fun i => kl.getD i .p) l.length k listed = true → wpLex P ops C R Q l kt m g a w → wpA P md ops C R (fun i => kl.getD i .p) Q l.length listed m g a w
  | [], _, _, _, _, _, _, _, _, _, _, hB, h => ⟨by simpa [lexFrom] using hB, h⟩
  | o :: l, kt, k, listed, m, g, a, w, hC, hl, hkt, hB, h => by
    have h0 : ops[k]? = some o := by simpa using (hl 0).symm
    have hk0 : kt.headD .p = kl.getD k .p := by
      have := hkt 0
      cases kt with
      | nil => simpa using this
      | cons kd xs => simpa using this
    have hkt' : ∀ j, kt.tail.getD j .p = kl.getD (k + 1 + j) .p := fun j => by
      have := hkt (j + 1)
      cases kt with
      | nil => simpa [Nat.add_assoc, Nat.add_comm 1 j] using this
      | cons kd xs => simpa [Nat.add_assoc, Nat.add_comm 1 j] using this
    have hl' : ∀ j, l[j]? = ops[k + 1 + j]? := fun j => by have := hl (j + 1); simpa [Nat.add_assoc, Nat.add_comm 1 j] using this
    simp only [List.length_cons, lexFrom, Bool.and_eq_true] at hB
    obtain ⟨⟨hr, hf⟩, hB'⟩ := hB
    have hsel := Region.noSelect_spec hs
    have hr' : k ∈ Region.ready md ops listed := by simpa using hr
    have hW := free_waits h0 hf
    have hA := free_apart h0 hf
    have next : ∀ m' g' a' w', J C R m' g' w' → wpLex P ops C R Q l kt.tail m' g' a' w' → wpA P md ops C R (fun i => kl.getD i .p) Q l.length (listed.setIfInBounds k true) m' g' a' w' := fun m' g' a' w' hc hh => wpA_lex hrr hrt hs l kt.tail (k + 1) _ m' g' a' w' hc hl' hkt' hB' hh
    simp only [wpLex] at h
    by_cases hw : Region.wanted o (yielded ops a.tmps) = true
    · rw [if_pos hw, hk0] at h
      have hA' : ∀ j oj, ops[j]? = some oj → j ≠ k → j ∉ dset md ops k → listed.getD j true = false → o.apart ops oj = true ∧ fits (kl.getD k .p) (kl.getD j .p) = true := hA
      cases hkk : kl.getD k .p with
      | p =>
        rw [hkk] at h
        obtain ⟨v, hv, hn⟩ := h
        refine first_s (R := R) (I := J C R) (hIw := fun _ _ _ _ h h1 h2 => ⟨h1, fun _ => hrr _⟩) (hIv := fun _ _ _ _ h h1 h2 => ⟨h1, fun e => hrt _ _ _ (h.2 e) (h2 e)⟩) (hIx := fun _ _ => ⟨(fun e => by cases e), (fun e => by cases e)⟩) (Y := YC P ops any o v) (A := fun _ => True) (v := v) (D := dset md ops k) h0 (fun _ _ hy he hw => hy.same he hw) hsel (fun K m g a w _ hc hy hk => ?_) l.length listed m g a w trivial hC hW (fun j oj hj hne hjD hun => ⟨(hA j oj hj hne hjD hun).1, fun _ => trivial⟩) hr' (.inl ⟨hw, hv⟩) (next _ _ _ _ hC hn)
        unfold opA
        simp only [h0, hkk]
        rcases hy with ⟨hwj, hu⟩ | ⟨hwj, rfl⟩
        · rw [if_pos hwj]
          exact ⟨v, hu, hk⟩
        · rw [if_neg (by rw [hwj]; simp)]
          exact hk
      | s =>
        rw [hkk] at h
        obtain ⟨hmt, v, hv, hn⟩ := h
        refine first_s (R := R) (I := J C R) (hIw := fun _ _ _ _ h h1 h2 => ⟨h1, fun _ => hrr _⟩) (hIv := fun _ _ _ _ h h1 h2 => ⟨h1, fun e => hrt _ _ _ (h.2 e) (h2 e)⟩) (hIx := fun _ _ => ⟨(fun e => by cases e), (fun e => by cases e)⟩) (Y := YC P ops C o v) (A := fun m => m = true) (v := v) (D := dset md ops k) h0 (fun _ _ hy he hw => hy.same he hw) hsel (fun K m g a w hm hc hy hk => ?_) l.length listed m g a w hmt hC hW (fun j oj hj hne hjD hun => ?_) hr' (.inl ⟨hw, hv⟩) (next _ _ _ _ hC hn)
        · unfold opA
          simp only [h0, hkk]
          rcases hy with ⟨hwj, hu⟩ | ⟨hwj, rfl⟩
          · rw [if_pos hwj]
            exact ⟨hm, v, hu, hk⟩
          · rw [if_neg (by rw [hwj]; simp)]
            exact hk
        · have h3 := hA' j oj hj hne hjD hun
          refine ⟨h3.1, fun hx => ?_⟩
          have h4 := h3.2
          rw [hkk, hx] at h4
          cases h4
      | r =>
        rw [hkk] at h
        obtain ⟨hmt, v, hv, hn⟩ := h
        refine first_s (R := R) (I := fun m' g' w' => J C R m' g' w' ∧ (m' = true → R g g')) (hIw := fun _ _ _ _ h h1 h2 => ⟨⟨h1, fun _ => hrr _⟩, fun e => hrt _ _ _ (h.2 e) (hrt _ _ _ (h.1.2 e) (h2 e))⟩) (hIv := fun _ _ _ _ h h1 h2 => ⟨⟨h1, fun e => hrt _ _ _ (h.1.2 e) (h2 e)⟩, h.2⟩) (hIx := fun _ _ => ⟨⟨(fun e => by cases e), (fun e => by cases e)⟩, (fun e => by cases e)⟩) (Y := YC P ops (fun x => C x ∧ R g x) o v) (A := fun m => m = true) (v := v) (D := dset md ops k) h0 (fun _ _ hy he hw => hy.same he hw) hsel (fun K m g' a w' hm hc hy hk => ?_) l.length listed m g a w hmt ⟨hC, fun _ => hrr g⟩ hW (fun j oj hj hne hjD hun => ?_) hr' (.inl ⟨hw, hv⟩) (next _ _ _ _ hC hn)
        · unfold opA
          simp only [h0, hkk]
          rcases hy with ⟨hwj, hu⟩ | ⟨hwj, rfl⟩
          · rw [if_pos hwj]
            exact ⟨hm, v, fun x hx => hu x ⟨hx.1, hrt _ _ _ (hc.2 hm) hx.2⟩, hk⟩
          · rw [if_neg (by rw [hwj]; simp)]
            exact hk
        · have h3 := hA' j oj hj hne hjD hun
          refine ⟨h3.1, fun hx => ?_⟩
          have h4 := h3.2
          rw [hkk, hx] at h4
          cases h4
      | v =>
        rw [hkk] at h
        refine first_w (D := dset md ops k) hrt h0 hsel (fun m => m) (fun g _ => g) (fun m => .inr (.inl ⟨hkk, rfl, rfl⟩)) l.length listed m g a w hC hW (fun j oj hj hne hjD hun => ?_) hr' hw ?_
        · have h3 := hA' j oj hj hne hjD hun
          refine ⟨h3.1, ?_⟩
          have h4 := h3.2
          rw [hkk] at h4
          cases hkj : kl.getD j .p with
          | p => exact .inl rfl
          | s => exact .inr (.inl ⟨rfl, by rw [hkk]; decide⟩)
          | r => exact .inr (.inr ⟨rfl, hkk⟩)
          | v => rw [hkj] at h4; cases h4
          | w => rw [hkj] at h4; cases h4
          | x => rw [hkj] at h4; cases h4
        · exact wp_any_mono h fun a' w' ⟨hc, hh⟩ => ⟨hc, next _ _ _ _ ⟨hc.1, fun e => hrt _ _ _ (hC.2 e) (hc.2 e)⟩ hh⟩
      | w =>
        rw [hkk] at h
        refine first_w (D := dset md ops k) hrt h0 hsel (fun m => m) (fun _ w => w) (fun m => .inl ⟨hkk, rfl, rfl⟩) l.length listed m g a w hC hW (fun j oj hj hne hjD hun => ?_) hr' hw ?_
        · have h3 := hA' j oj hj hne hjD hun
          refine ⟨h3.1, ?_⟩
          have h4 := h3.2
          rw [hkk] at h4
          cases hkj : kl.getD j .p with
          | p => exact .inl rfl
          | s => exact .inr (.inl ⟨rfl, by rw [hkk]; decide⟩)
          | r => rw [hkj] at h4; cases h4
          | v => rw [hkj] at h4; cases h4
          | w => rw [hkj] at h4; cases h4
          | x => rw [hkj] at h4; cases h4
        · exact wp_any_mono h fun a' w' ⟨hc, hh⟩ => ⟨hc, next _ _ _ _ ⟨hc.1, fun _ => hrr _⟩ hh⟩
      | x =>
        rw [hkk] at h
        refine first_w (D := dset md ops k) hrt h0 hsel (fun m => false) (fun g _ => g) (fun m => .inr (.inr ⟨hkk, rfl, rfl⟩)) l.length listed m g a w hC hW (fun j oj hj hne hjD hun => ?_) hr' hw ?_
        · have h3 := hA' j oj hj hne hjD hun
          refine ⟨h3.1, ?_⟩
          have h4 := h3.2
          rw [hkk] at h4
          cases hkj : kl.getD j .p with
          | p => exact .inl rfl
          | s => rw [hkj] at h4; cases h4
          | r => rw [hkj] at h4; cases h4
          | v => rw [hkj] at h4; cases h4
          | w => rw [hkj] at h4; cases h4
          | x => rw [hkj] at h4; cases h4
        · exact wp_any_mono h fun a' w' hh => ⟨⟨(fun e => by cases e), (fun e => by cases e)⟩, next _ _ _ _ ⟨(fun e => by cases e), (fun e => by cases e)⟩ hh⟩
    · rw [if_neg hw] at h
      have hw' : Region.wanted o (yielded ops a.tmps) = false := by simpa using hw
      refine first_s (R := R) (I := J C R) (hIw := fun _ _ _ _ h h1 h2 => ⟨h1, fun _ => hrr _⟩) (hIv := fun _ _ _ _ h h1 h2 => ⟨h1, fun e => hrt _ _ _ (h.2 e) (h2 e)⟩) (hIx := fun _ _ => ⟨(fun e => by cases e), (fun e => by cases e)⟩) (Y := fun a => Region.wanted o (yielded ops a.tmps) = false) (A := fun _ => True) (v := undef) (D := dset md ops k) h0 (fun _ _ hy _ hw => hw.trans hy) hsel (fun K m g a w _ hc hy hk => ?_) l.length listed m g a w trivial hC hW (fun j oj hj hne hjD hun => ⟨(hA j oj hj hne hjD hun).1, fun _ => trivial⟩) hr' hw' (next _ _ _ _ hC h)
      unfold opA
      simp only [h0]
      rw [if_neg (by rw [hy]; simp)]
      exact hk
theorem wp_region_mix {id : Nat} {Q : Exit → Act → World → Prop} {a : Act} {w : World} {l : List Oper} (C : World → Prop) (R : World → World → Prop) (hrr : ∀ w, R w w) (hrt : ∀ x y z, R x y → R y z → R x z) (kl : List Kind) (hm : P.follows .mixedOrders = true) (hB : lexB .any l.toArray kl = true)
    (hC : C w.drew) (h : wpLex P l.toArray C R (fun a' w' => Q .normal a' w') l kl true w.drew a w.drew) : (Code.region id l.toArray true).wp P Q a w := by
  simp only [lexB, Bool.and_eq_true] at hB
  refine wp_region_any hm (wpAny_of_A (C := C) (R := R) (ks := fun i => kl.getD i .p) (Q := fun a' w' => Q .normal a' w') hrr hrt (fun _ _ h => h) _ _ true w.drew _ _ ⟨fun _ => hC, fun _ => hrr _⟩ ?_)
  have := wpA_lex (C := C) (R := R) (md := .any) (kl := kl) hrr hrt hB.1 l kl 0 (Array.replicate l.toArray.size false) true w.drew a w.drew ⟨fun _ => hC, fun _ => hrr _⟩ (by simp) (by simp) (by simpa using hB.2) h
  simpa using this
section
variable {o : Oper} {rest : List Oper} {kt : List Kind} {m : Bool} {g : World} {a : Act} {w : World}
theorem lex_nil (h : Q a w) : wpLex P ops C R Q [] kt m g a w := h
theorem lex_w (h : ∀ K : Act → World → Prop, (∀ a w', C w' → R w w' → wpLex P ops C R Q rest kt true w' a w' → K a w') → wpList P ops (Exit.then K NoX) [o] a w) (hw : Region.wanted o (yielded ops a.tmps) = true) : wpLex P ops C R Q (o :: rest) (.w :: kt) true g a w := by
  have h1 := h (fun a w' => (C w' ∧ R w w') ∧ wpLex P ops C R Q rest kt true w' a w') (fun _ _ h1 h3 h2 => ⟨⟨h1, h3⟩, h2⟩)
  simp only [wpLex, List.headD_cons, List.tail_cons]
  rw [if_pos hw]
  exact wp_any_mono (wp_of_list hw h1) fun _ _ h => ⟨⟨fun _ => h.1.1, fun _ => h.1.2⟩, h.2⟩
theorem lex_v (h : ∀ K : Act → World → Prop, (∀ a w', C w' → R w w' → wpLex P ops C R Q rest kt true g a w' → K a w') → wpList P ops (Exit.then K NoX) [o] a w) : wpLex P ops C R Q (o :: rest) (.v :: kt) true g a w := by
  have h1 := h (fun a w' => (C w' ∧ R w w') ∧ wpLex P ops C R Q rest kt true g a w') (fun _ _ h1 h3 h2 => ⟨⟨h1, h3⟩, h2⟩)
  simp only [wpLex, List.headD_cons, List.tail_cons]
  split
  · rename_i hw
    exact wp_any_mono (wp_of_list hw h1) fun _ _ h => ⟨⟨fun _ => h.1.1, fun _ => h.1.2⟩, h.2⟩
  · rename_i hw
    simp only [wpList, if_neg hw, Exit.then] at h1
    exact h1.2
end
theorem lex_q (n : Nat) : ∀ (l : List Oper) (kt : List Kind) (g : World) (a : Act) (w : World), ((kt.take n).length == n && (kt.take n).all (· == .s) && (l.take n).all (fun o => plainOp o.op)) = true →
    wpQuiet P ops C (fun a' => wpLex P ops C R Q (l.drop n) (kt.drop n) true g a' w) (l.take n) a → wpLex P ops C R Q l kt true g a w := by
  induction n with
  | zero => exact fun l kt g a w _ h => h
  | succ n ih =>
    intro l kt g a w hb h
    cases kt with
    | nil => simp at hb
    | cons kd kt =>
      simp only [List.take_succ_cons, List.length_cons, List.all_cons, Bool.and_eq_true, beq_iff_eq] at hb
      obtain ⟨⟨hl, hk, hks⟩, hp⟩ := hb
      cases l with
      | nil => exact h
      | cons o l =>
        simp only [List.take_succ_cons, List.all_cons, Bool.and_eq_true] at hp
        simp only [List.take_succ_cons, List.drop_succ_cons, wpQuiet] at h
        have ih' := fun a w => ih l kt g a w (by simp only [Bool.and_eq_true, beq_iff_eq]; exact ⟨⟨by omega, hks⟩, hp.2⟩)
        subst hk
        simp only [wpLex, List.headD_cons, List.tail_cons]
        split
        · rename_i hw
          rw [if_pos hw] at h
          refine ⟨rfl, still_of_quiet hp.1 ?_⟩
          obtain ⟨v, hv, hk⟩ := h
          exact ⟨v, hv, ih' _ _ hk⟩
        · rename_i hw
          rw [if_neg hw] at h
          exact ih' _ _ h
theorem lex_r (n : Nat) : ∀ (l : List Oper) (kt : List Kind) (g : World) (a : Act) (w : World), ((kt.take n).length == n && (kt.take n).all (· == .r) && (l.take n).all (fun o => plainOp o.op)) = true →
    wpQuiet P ops (fun x => C x ∧ R g x) (fun a' => wpLex P ops C R Q (l.drop n) (kt.drop n) true g a' w) (l.take n) a → wpLex P ops C R Q l kt true g a w := by
  induction n with
  | zero => exact fun l kt g a w _ h => h
  | succ n ih =>
    intro l kt g a w hb h
    cases kt with
    | nil => simp at hb
    | cons kd kt =>
      simp only [List.take_succ_cons, List.length_cons, List.all_cons, Bool.and_eq_true, beq_iff_eq] at hb
      obtain ⟨⟨hl, hk, hks⟩, hp⟩ := hb
      cases l with
      | nil => exact h
      | cons o l =>
        simp only [List.take_succ_cons, List.all_cons, Bool.and_eq_true] at hp
        simp only [List.take_succ_cons, List.drop_succ_cons, wpQuiet] at h
        have ih' := fun a w => ih l kt g a w (by simp only [Bool.and_eq_true, beq_iff_eq]; exact ⟨⟨by omega, hks⟩, hp.2⟩)
        subst hk
        simp only [wpLex, List.headD_cons, List.tail_cons]
        split
        · rename_i hw
          rw [if_pos hw] at h
          refine ⟨rfl, still_of_quiet hp.1 ?_⟩
          obtain ⟨v, hv, hk⟩ := h
          exact ⟨v, hv, ih' _ _ hk⟩
        · rename_i hw
          rw [if_neg hw] at h
          exact ih' _ _ h
theorem region {id : Nat} {Q : Exit → Act → World → Prop} {a : Act} {w : World} {l : List Oper} (C0 : World → Prop) (R : World → World → Prop) (hrr : ∀ w, R w w) (hrt : ∀ x y z, R x y → R y z → R x z) (kl : List Kind) (hm : P.follows .mixedOrders = true) (hB : lexB .any l.toArray kl = true)
    (hC : C0 w.drew) (h : Nonempty (In C0) → wpLex P l.toArray (fun w' => ∃ m : In C0, w' = m.w) R (fun a' w' => Q .normal a' w') l kl true w.drew a w.drew) : (Code.region id l.toArray true).wp P Q a w :=
  wp_region_mix _ R hrr hrt kl hm hB (cls_mk hC) (h ⟨⟨_, hC⟩⟩)
theorem step_w {C0 : World → Prop} {o : Oper} {rest : List Oper} {kt : List Kind} {g : World} {a : Act} {w : World} (hw : Region.wanted o (yielded ops a.tmps) = true) (h : ∀ K : Act → World → Prop, On (∀ a w', C0 w' → R w w' → wpLex P ops (fun w' => ∃ m : In C0, w' = m.w) R Q rest kt true w' a w' → K a w') → wpList P ops (Exit.then K NoX) [o] a w) : wpLex P ops (fun w' => ∃ m : In C0, w' = m.w) R Q (o :: rest) (.w :: kt) true g a w :=
  lex_w (fun K hK => h K ⟨fun a w hc hr hh => hK a w (cls_mk hc) hr hh⟩) hw
theorem step_v {C0 : World → Prop} {o : Oper} {rest : List Oper} {kt : List Kind} {g : World} {a : Act} {w : World} (h : ∀ K : Act → World → Prop, On (∀ a w', C0 w' → R w w' → wpLex P ops (fun w' => ∃ m : In C0, w' = m.w) R Q rest kt true g a w' → K a w') → wpList P ops (Exit.then K NoX) [o] a w) : wpLex P ops (fun w' => ∃ m : In C0, w' = m.w) R Q (o :: rest) (.v :: kt) true g a w :=
  lex_v fun K hK => h K ⟨fun a w hc hr hh => hK a w (cls_mk hc) hr hh⟩
theorem lex_rm (n : Nat) {C0 : World → Prop} (l : List Oper) (kt : List Kind) (g : World) (a : Act) (w : World) (hb : ((kt.take n).length == n && (kt.take n).all (· == .r) && (l.take n).all (fun o => plainOp o.op)) = true)
    (h : wpQuiet P ops (fun x => ∃ m : In (fun y => C0 y ∧ R g y), x = m.w) (fun a' => wpLex P ops (fun w' => ∃ m : In C0, w' = m.w) R Q (l.drop n) (kt.drop n) true g a' w) (l.take n) a) : wpLex P ops (fun w' => ∃ m : In C0, w' = m.w) R Q l kt true g a w :=
  lex_r n l kt g a w hb (by
    have e : (fun x => (∃ m : In C0, x = m.w) ∧ R g x) = (fun x => ∃ m : In (fun y => C0 y ∧ R g y), x = m.w) := by
      funext x
      exact propext ⟨fun ⟨⟨m, hm⟩, hr⟩ => ⟨⟨x, hm ▸ m.h, hr⟩, rfl⟩, fun ⟨m, hm⟩ => ⟨⟨⟨x, hm ▸ m.h.1⟩, rfl⟩, hm ▸ m.h.2⟩⟩
    rw [e]
    exact h)
end Go.Rg
end
section
namespace Go.Reg
set_option linter.unusedVariables false
set_option linter.unusedSimpArgs false
open Go
variable {P : Program} {ops : Array Oper} {md : Region.Mode} {CT : Bool → World → Prop} {QT : Act → Bool → Prop}
def good (P : Program) (CT : Bool → World → Prop) (t : Bool) (o : Oper) (a : Act) (v : Value) : Prop := ∀ d w, CT d w → o.wp P a w (fun a' w' => a' = a.put o.dst v ∧ CT (d || t) w') NoX
variable {ts : Nat → Bool}
end Go.Reg
end
