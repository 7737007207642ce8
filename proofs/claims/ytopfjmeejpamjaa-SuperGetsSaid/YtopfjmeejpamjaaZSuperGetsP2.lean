/- Part 3 of the proof of SuperGets: lemmas alone. -/
import Derived.Test.YtopfjmeejpamjaaZSuperGetsP1
import Derived.Still
import Derived.Deep.Quiet
import Derived.Tactics
import Derived.KernelRfl
import Derived.Below
import Derived.Lib.Hide
import Derived.OwnWalk
import Derived.WalkKit
import Derived.RowKit3
import Derived.Deep.LoopGhost
import Derived.Deep.QuietTactic
import Derived.BigQuiet
import Derived.WideLaws
import Derived.Great.BuildSlice
import Derived.Outline
import Derived.Deep.DeepCutAuto
import Derived.WalkSpells
import Derived.RegionTactic
import Derived.BigRegion
import Derived.WalkLawsBesides
import Derived.IntWalk
import Derived.Deep.Slices
import Derived.Lib.AppendZerosOnto
section
namespace Go.Reg
open Go
variable {P : Program} {ops : Array Oper} {md : Region.Mode} {C : World → Prop} {Q : Act → World → Prop}
def NoX : Exit → Act → World → Prop := fun _ _ _ => False
def stillUpon (w : World) (v : Value) : Result Next → Prop
  | .ok (.value u) w' => w' = w ∧ u = v
  | .ok .skip w' => w' = w ∧ v = undef
  | _ => False
def stillAt (P : Program) (o : Oper) (a : Act) (w : World) (v : Value) : Prop := stillUpon w v ((execOp a.eval o).run P w)
inductive Kind where
  | p | s | w | x
  deriving DecidableEq
def still (P : Program) (C : World → Prop) (o : Oper) (a : Act) (next : Act → Prop) : Prop := ∃ v, (∀ w, C w → stillAt P o a w v) ∧ next (a.put o.dst v)
def any : World → Prop := fun _ => True
def cm (C : World → Prop) (m : Bool) (w : World) : Prop := m = true → C w
def opK (P : Program) (C : World → Prop) (m : Bool) (k : Kind) (o : Oper) (K : Bool → Act → World → Prop) (a : Act) (w : World) : Prop :=
  match k with
  | .p => still P any o a (fun a' => K m a' w)
  | .s => m = true ∧ still P C o a (fun a' => K m a' w)
  | .w => o.wp P a w (fun a' w' => cm C m w' ∧ K m a' w') NoX
  | .x => o.wp P a w (fun a' w' => K false a' w') NoX
def wpLex (P : Program) (ops : Array Oper) (C : World → Prop) (Q : Act → World → Prop) : List Oper → List Kind → Bool → Act → World → Prop
  | [], _, _, a, w => Q a w
  | o :: rest, ks, m, a, w =>
    if Region.wanted o (yielded ops a.tmps) then opK P C m (ks.headD .p) o (fun m' a' w' => wpLex P ops C Q rest ks.tail m' a' w') a w
    else wpLex P ops C Q rest ks.tail m (a.put o.dst undef) w
def Out (o : Oper) (a a1 : Act) : Prop := (∃ v, a1 = a.put o.dst v) ∨ (∃ d, a1 = Act.put { a with defers := d :: a.defers } o.dst undef)
theorem letsOut_no (h : LetsOut NoX) : False := by
  obtain ⟨_, _, h⟩ := h
  exact h
theorem wp_exists {o : Oper} {a : Act} {w : World} {next : Act → World → Prop} (h : o.wp P a w next NoX) : ∃ a1 w1, Out o a a1 ∧ next a1 w1 := by
  unfold Oper.wp at h
  generalize (execOp a.eval o).run P w = r at h
  cases r with
  | ok n w' =>
    cases n <;> simp only [Oper.upon] at h
    case value v => exact ⟨_, _, .inl ⟨_, rfl⟩, h⟩
    case skip => exact ⟨_, _, .inl ⟨_, rfl⟩, h⟩
    case defer d => exact ⟨_, _, .inr ⟨_, rfl⟩, h⟩
    case enter f args =>
      obtain ⟨e, w'', fr, hR, _⟩ := h []
      cases e with
      | returned v => exact ⟨_, _, .inl ⟨_, rfl⟩, hR⟩
      | panicked c => exact hR.elim
      | outgrown => exact (letsOut_no hR).elim
    case row row args =>
      obtain ⟨v, w'', hR, _⟩ := h default []
      exact ⟨_, _, .inl ⟨_, rfl⟩, hR⟩
  | halt x w' => cases x <;> simp only [Oper.upon] at h; exact h.elim
theorem wp_to {o : Oper} {a b : Act} {w : World} {next next2 : Act → World → Prop} (he : execOp b.eval o = execOp a.eval o)
    (h : o.wp P a w next NoX) (hv : ∀ v w1, next (a.put o.dst v) w1 → next2 (b.put o.dst v) w1)
    (hd : ∀ d w1, next (Act.put { a with defers := d :: a.defers } o.dst undef) w1 → next2 (Act.put { b with defers := d :: b.defers } o.dst undef) w1) : o.wp P b w next2 NoX := by
  unfold Oper.wp at *
  rw [he]
  generalize (execOp a.eval o).run P w = r at *
  cases r with
  | ok n w' =>
    cases n <;> simp only [Oper.upon] at h ⊢
    case value v => exact hv _ _ h
    case skip => exact hv _ _ h
    case defer d => exact hd _ _ h
    case enter f args =>
      refine Calls.mono h fun e w'' hr => ?_
      cases e with
      | returned v => exact hv _ _ hr
      | panicked c => exact hr.elim
      | outgrown => exact (letsOut_no hr).elim
    case row row args => exact Rows.mono h fun _ _ hr => hv _ _ hr
  | halt x w' => cases x <;> simp only [Oper.upon] at h ⊢ <;> exact h
theorem out_exec {o oj : Oper} {a a1 : Act} (h : Out o a a1) (hs : ∀ cs b, oj.op ≠ .select cs b) (hd : ∀ d, o.dst = some d → d ∉ oj.looksAt ops) : execOp a1.eval oj = execOp a.eval oj := by
  rcases h with ⟨v, rfl⟩ | ⟨d, rfl⟩
  · exact execOp_put oj hs a o.dst v hd
  · exact execOp_put oj hs { a with defers := d :: a.defers } o.dst undef hd
theorem out_wanted {o oj : Oper} {a a1 : Act} (h : Out o a a1) (hd : ∀ d, o.dst = some d → d ∉ oj.looksAt ops) : Region.wanted oj (yielded ops a1.tmps) = Region.wanted oj (yielded ops a.tmps) := by
  rcases h with ⟨v, rfl⟩ | ⟨d, rfl⟩
  · exact wanted_put oj a o.dst v hd
  · exact wanted_put oj { a with defers := d :: a.defers } o.dst undef hd
variable {ks : Nat → Kind}
def opA (P : Program) (ops : Array Oper) (C : World → Prop) (ks : Nat → Kind) (m : Bool) (i : Nat) (K : Bool → Act → World → Prop) (a : Act) (w : World) : Prop :=
  match ops[i]? with
  | none => K m a w
  | some o => if Region.wanted o (yielded ops a.tmps) then opK P C m (ks i) o K a w else K m (a.put o.dst undef) w
def wpA (P : Program) (md : Region.Mode) (ops : Array Oper) (C : World → Prop) (ks : Nat → Kind) (Q : Act → World → Prop) : Nat → Array Bool → Bool → Act → World → Prop
  | 0, listed, _, a, w => Region.ready md ops listed = [] ∧ Q a w
  | fuel + 1, listed, m, a, w =>
    (Region.ready md ops listed = [] → Q a w) ∧ ∀ i ∈ Region.ready md ops listed, opA P ops C ks m i (wpA P md ops C ks Q fuel (listed.setIfInBounds i true)) a w
theorem wp_any_mono {o : Oper} {a : Act} {w : World} {K : Act → World → Prop} {Q' : Exit → Act → World → Prop} (h : o.wp P a w K NoX) {K' : Act → World → Prop} (hk : ∀ a w, K a w → K' a w) : o.wp P a w K' Q' := by
  unfold Oper.wp at *
  generalize (execOp a.eval o).run P w = r at *
  cases r with
  | ok n w' =>
    cases n <;> simp only [Oper.upon] at h ⊢
    case value v => exact hk _ _ h
    case skip => exact hk _ _ h
    case defer d => exact hk _ _ h
    case enter f args =>
      refine Calls.mono h fun e w'' hr => ?_
      cases e with
      | returned v => exact hk _ _ hr
      | panicked c => exact hr.elim
      | outgrown => exact (letsOut_no hr).elim
    case row row args => exact Rows.mono h fun _ _ hr => hk _ _ hr
  | halt x w' => cases x <;> simp only [Oper.upon] at h ⊢; exact h.elim
theorem wp_of_still {o : Oper} {a : Act} {w : World} {v : Value} {K : Act → World → Prop} {Q' : Exit → Act → World → Prop} (h : stillAt P o a w v) (hk : K (a.put o.dst v) w) : o.wp P a w K Q' := by
  unfold stillAt at h
  unfold Oper.wp
  generalize (execOp a.eval o).run P w = r at *
  cases r with
  | ok n w' =>
    cases n <;> simp only [stillUpon] at h <;> simp only [Oper.upon]
    case value u =>
      obtain ⟨rfl, rfl⟩ := h
      exact hk
    case skip =>
      obtain ⟨rfl, rfl⟩ := h
      exact hk
  | halt x w' => simp only [stillUpon] at h
theorem opK_wp {m : Bool} {k : Kind} {o : Oper} {K : Bool → Act → World → Prop} {K' : Act → World → Prop} {a : Act} {w : World} {Q' : Exit → Act → World → Prop} (hC : cm C m w) (h : opK P C m k o K a w) (hk : ∀ m' a' w', cm C m' w' → K m' a' w' → K' a' w') : o.wp P a w K' Q' := by
  cases k with
  | p =>
    obtain ⟨v, hv, h⟩ := h
    exact wp_of_still (hv w trivial) (hk _ _ _ hC h)
  | s =>
    obtain ⟨hm, v, hv, h⟩ := h
    exact wp_of_still (hv w (hC hm)) (hk _ _ _ hC h)
  | w => exact wp_any_mono h fun a' w' ⟨hc, hh⟩ => hk _ _ _ hc hh
  | x => exact wp_any_mono h fun a' w' hh => hk _ _ _ (fun e => by cases e) hh
theorem wpAny_of_A {Q' : Exit → Act → World → Prop} (hQ : ∀ a w, Q a w → Q' .normal a w) : ∀ (fuel : Nat) (listed : Array Bool) (m : Bool) (a : Act) (w : World), cm C m w →
    wpA P md ops C ks Q fuel listed m a w → wpAny P md ops Q' fuel listed a w
  | 0, _, _, _, _, _, h => ⟨h.1, hQ _ _ h.2⟩
  | fuel + 1, listed, m, a, w, hC, h => by
    refine ⟨fun h0 => hQ _ _ (h.1 h0), fun i hi => ?_⟩
    have h1 := h.2 i hi
    unfold opA at h1
    unfold wpOp
    split
    · rename_i ho; simp only [ho] at h1; exact wpAny_of_A hQ fuel _ _ _ _ hC h1
    · rename_i o ho
      simp only [ho] at h1
      split
      · rename_i hw
        simp only [hw, if_true] at h1
        exact .inl (opK_wp hC h1 fun m' a' w' hc hk => wpAny_of_A hQ fuel _ _ _ _ hc hk)
      · rename_i hw
        simp only [hw] at h1
        exact wpAny_of_A hQ fuel _ _ _ _ hC h1
def YC (P : Program) (ops : Array Oper) (C : World → Prop) (o : Oper) (v : Value) (a : Act) : Prop :=
  (Region.wanted o (yielded ops a.tmps) = true ∧ ∀ w, C w → stillAt P o a w v) ∨ (Region.wanted o (yielded ops a.tmps) = false ∧ v = undef)
theorem YC.same {o : Oper} {v : Value} {a a' : Act} (hy : YC P ops C o v a) (he : execOp a'.eval o = execOp a.eval o) (hw : Region.wanted o (yielded ops a'.tmps) = Region.wanted o (yielded ops a.tmps)) : YC P ops C o v a' := by
  unfold YC stillAt at *
  rw [he, hw]
  exact hy
theorem YC.det {D : World → Prop} {o : Oper} {v u : Value} {a : Act} {w : World} (hC : C w) (hD : D w) (h1 : YC P ops C o v a) (h2 : YC P ops D o u a) : u = v := by
  rcases h1 with ⟨hw, h1⟩ | ⟨hw, rfl⟩ <;> rcases h2 with ⟨hw2, h2⟩ | ⟨hw2, rfl⟩
  · have a1 := h1 w hC
    have a2 := h2 w hD
    unfold stillAt at a1 a2
    generalize (execOp a.eval o).run P w = r at *
    cases r with
    | ok n w' =>
      cases n <;> simp only [stillUpon] at a1 a2
      · exact a2.2.symm.trans a1.2
      · exact a2.2.trans a1.2.symm
    | halt x w' => simp only [stillUpon] at a1
  · rw [hw] at hw2; cases hw2
  · rw [hw] at hw2; cases hw2
  · rfl
theorem unlisted_false {listed : Array Bool} {j : Nat} (h : listed.getD j true = false) : listed.getD j false = false := by
  rcases Nat.lt_or_ge j listed.size with h' | h'
  · simp [h'] at h ⊢; exact h
  · simp [Array.getElem?_eq_none h'] at h
def Waits (md : Region.Mode) (ops : Array Oper) (listed : Array Bool) (i : Nat) (D : List Nat) : Prop :=
  ∀ j ∈ D, listed.getD j true = false ∧ ∃ oj, ops[j]? = some oj ∧ ∃ e ∈ oj.after, Region.binds md e = true ∧ (e.on = i ∨ e.on ∈ D)
theorem Waits.not_ready {listed : Array Bool} {i j : Nat} {D : List Nat} (h : Waits md ops listed i D) (hi : listed.getD i true = false) (hj : j ∈ Region.ready md ops listed) : j ∉ D := by
  intro hd
  obtain ⟨_, oj, hoj, e, he, hb, hon⟩ := h j hd
  obtain ⟨_, oj', hoj', hall⟩ := mem_ready.1 hj
  rw [hoj] at hoj'
  injection hoj' with hoj'
  subst hoj'
  have h1 := hall e he hb
  rcases hon with hon | hon
  · rw [hon, unlisted_false hi] at h1; cases h1
  · rw [unlisted_false (h _ hon).1] at h1; cases h1
theorem Waits.step {listed : Array Bool} {i j : Nat} {D : List Nat} (h : Waits md ops listed i D) (hj : j ∉ D) : Waits md ops (listed.setIfInBounds j true) i D := by
  intro k hk
  obtain ⟨h1, h2⟩ := h k hk
  have hne : j ≠ k := by
    rintro rfl
    exact hj hk
  exact ⟨by rw [getD_set_ne true hne]; exact h1, h2⟩
theorem first_s {Y : Act → Prop} {A : Bool → Prop} {i : Nat} {oi : Oper} {v : Value} {D : List Nat} (hi : ops[i]? = some oi)
    (hsame : ∀ a a', Y a → execOp a'.eval oi = execOp a.eval oi → Region.wanted oi (yielded ops a'.tmps) = Region.wanted oi (yielded ops a.tmps) → Y a') (hsel : ∀ (j : Nat) (o : Oper) cs b, ops[j]? = some o → o.op ≠ .select cs b)
    (hown : ∀ (K : Bool → Act → World → Prop) (m : Bool) (a : Act) (w : World), A m → cm C m w → Y a → K m (a.put oi.dst v) w → opA P ops C ks m i K a w) :
    ∀ (fuel : Nat) (listed : Array Bool) (m : Bool) (a : Act) (w : World), A m → cm C m w → Waits md ops listed i D →
      (∀ j oj, ops[j]? = some oj → j ≠ i → j ∉ D → listed.getD j true = false → oi.apart ops oj = true ∧ (ks j = .x → A false)) →
      i ∈ Region.ready md ops listed → Y a → wpA P md ops C ks Q fuel (listed.setIfInBounds i true) m (a.put oi.dst v) w → wpA P md ops C ks Q (fuel + 1) listed m a w := by
  intro fuel
  induction fuel with
  | zero =>
    intro listed m a w hA hC hD _ hr hy H
    refine ⟨fun h => (by rw [h] at hr; cases hr), fun j hj => ?_⟩
    by_cases hji : j = i
    · subst hji; exact hown _ _ _ _ hA hC hy H
    · have := ready_mono hj hji
      rw [H.1] at this
      cases this
  | succ fuel ih =>
    intro listed m a w hA hC hD hfree hr hy H
    refine ⟨fun h => (by rw [h] at hr; cases hr), fun j hj => ?_⟩
    by_cases hji : j = i
    · subst hji; exact hown _ _ _ _ hA hC hy H
    · have h1 := H.2 j (ready_mono hj hji)
      obtain ⟨hjun, oj, hoj, hall⟩ := mem_ready.1 hj
      have hjD := hD.not_ready (mem_ready.1 hr).1 hj
      obtain ⟨hap, hjx⟩ := hfree j oj hoj hji hjD hjun
      obtain ⟨e1, e2, e3⟩ := Oper.apart_spec hap
      have hsi := fun cs b => hsel i oi cs b hi
      have hsj := fun cs b => hsel j oj cs b hoj
      have hx : execOp (a.put oi.dst v).eval oj = execOp a.eval oj := execOp_put oj hsj a oi.dst v e1
      have hwt := wanted_put (ops := ops) oj a oi.dst v e1
      have hfree' : ∀ k ok, ops[k]? = some ok → k ≠ i → k ∉ D → (listed.setIfInBounds j true).getD k true = false → oi.apart ops ok = true ∧ (ks k = .x → A false) := fun k ok hk hki hkD hun => by
        refine hfree k ok hk hki hkD ?_
        by_cases hjk : j = k
        · subst hjk; exact hjun
        · rw [getD_set_ne true hjk] at hun; exact hun
      have go : ∀ m1 a1 w1, A m1 → cm C m1 w1 → Y a1 → wpA P md ops C ks Q fuel ((listed.setIfInBounds i true).setIfInBounds j true) m1 (a1.put oi.dst v) w1 → wpA P md ops C ks Q (fuel + 1) (listed.setIfInBounds j true) m1 a1 w1 := fun m1 a1 w1 hA1 hc1 hy1 hh => by
        refine ih _ m1 a1 w1 hA1 hc1 (hD.step hjD) hfree' (ready_mono hr (Ne.symm hji)) hy1 ?_
        rw [Array.setIfInBounds_comm _ _ hji]
        exact hh
      have keep : ∀ u, Y (a.put oj.dst u) := fun u => hsame _ _ hy (execOp_put oi hsi a oj.dst u e3) (wanted_put oi a oj.dst u e3)
      have keepd : ∀ d, Y (Act.put { a with defers := d :: a.defers } oj.dst undef) := fun d => hsame _ _ hy (execOp_put oi hsi { a with defers := d :: a.defers } oj.dst undef e3) (wanted_put oi { a with defers := d :: a.defers } oj.dst undef e3)
      have comm : ∀ u, (a.put oi.dst v).put oj.dst u = (a.put oj.dst u).put oi.dst v := fun u => Act.put_comm _ v u e2
      have commd : ∀ d, Act.put { a.put oi.dst v with defers := d :: (a.put oi.dst v).defers } oj.dst undef = (Act.put { a with defers := d :: a.defers } oj.dst undef).put oi.dst v := fun d => by
        rw [Act.put_defers]
        exact Act.put_comm _ v undef e2
      have stl : ∀ (E : World → Prop) (K K' : Act → Prop), still P E oj (a.put oi.dst v) K → (∀ u, K ((a.put oj.dst u).put oi.dst v) → K' (a.put oj.dst u)) → still P E oj a K' := fun E K K' h hk => by
        obtain ⟨u, hu, hn⟩ := h
        refine ⟨u, fun w' hw' => ?_, hk u (by rw [← comm]; exact hn)⟩
        have := hu w' hw'
        unfold stillAt at *
        rwa [hx] at this
      unfold opA at h1 ⊢
      simp only [hoj] at h1 ⊢
      rw [hwt] at h1
      split at h1
      · rename_i hw
        rw [if_pos hw]
        cases hkj : ks j with
        | p =>
          rw [hkj] at h1
          have h2 : still P any oj (a.put oi.dst v) (fun a' => wpA P md ops C ks Q fuel ((listed.setIfInBounds i true).setIfInBounds j true) m a' w) := h1
          refine stl any _ (fun a' => wpA P md ops C ks Q (fuel + 1) (listed.setIfInBounds j true) m a' w) h2 fun u hn => ?_
          exact go _ _ _ hA hC (keep u) hn
        | s =>
          rw [hkj] at h1
          have h2 : still P C oj (a.put oi.dst v) (fun a' => wpA P md ops C ks Q fuel ((listed.setIfInBounds i true).setIfInBounds j true) m a' w) := h1.2
          refine ⟨h1.1, stl C _ (fun a' => wpA P md ops C ks Q (fuel + 1) (listed.setIfInBounds j true) m a' w) h2 fun u hn => ?_⟩
          exact go _ _ _ hA hC (keep u) hn
        | w =>
          rw [hkj] at h1
          refine wp_to hx.symm h1 (fun u w1 ⟨hc1, hh⟩ => ⟨hc1, ?_⟩) (fun d w1 ⟨hc1, hh⟩ => ⟨hc1, ?_⟩)
          · refine go _ _ _ hA hc1 (keep u) ?_
            rw [← comm]
            exact hh
          · refine go _ _ _ hA hc1 (keepd d) ?_
            rw [← commd]
            exact hh
        | x =>
          rw [hkj] at h1
          refine wp_to hx.symm h1 (fun u w1 hh => ?_) (fun d w1 hh => ?_)
          · refine go _ _ _ (hjx hkj) (fun e => by cases e) (keep u) ?_
            rw [← comm]
            exact hh
          · refine go _ _ _ (hjx hkj) (fun e => by cases e) (keepd d) ?_
            rw [← commd]
            exact hh
      · rename_i hw
        rw [if_neg hw]
        refine go _ _ _ hA hC (keep undef) ?_
        rw [← comm]
        exact h1
theorem first_w {i : Nat} {oi : Oper} {D : List Nat} (hi : ops[i]? = some oi) (hsel : ∀ (j : Nat) (o : Oper) cs b, ops[j]? = some o → o.op ≠ .select cs b) (mi : Bool → Bool) (hmi : ∀ m, (ks i = .w ∧ mi m = m) ∨ (ks i = .x ∧ mi m = false)) :
    ∀ (fuel : Nat) (listed : Array Bool) (m : Bool) (a : Act) (w : World), cm C m w → Waits md ops listed i D →
      (∀ j oj, ops[j]? = some oj → j ≠ i → j ∉ D → listed.getD j true = false → oi.apart ops oj = true ∧ (ks j = .p ∨ (ks j = .s ∧ ks i = .w))) →
      i ∈ Region.ready md ops listed → Region.wanted oi (yielded ops a.tmps) = true → oi.wp P a w (fun a' w' => cm C (mi m) w' ∧ wpA P md ops C ks Q fuel (listed.setIfInBounds i true) (mi m) a' w') NoX → wpA P md ops C ks Q (fuel + 1) listed m a w := by
  have own : ∀ (K : Bool → Act → World → Prop) (m : Bool) (a : Act) (w : World), Region.wanted oi (yielded ops a.tmps) = true → oi.wp P a w (fun a' w' => cm C (mi m) w' ∧ K (mi m) a' w') NoX → opA P ops C ks m i K a w := fun K m a w hw h => by
    unfold opA
    simp only [hi, hw, if_true]
    rcases hmi m with ⟨hk, hm⟩ | ⟨hk, hm⟩
    · rw [hk]
      rw [hm] at h
      exact h
    · rw [hk]
      rw [hm] at h
      exact wp_any_mono h fun _ _ h => h.2
  intro fuel
  induction fuel with
  | zero =>
    intro listed m a w hC hD _ hr hw H
    refine ⟨fun h => (by rw [h] at hr; cases hr), fun j hj => ?_⟩
    by_cases hji : j = i
    · subst hji; exact own _ _ _ _ hw H
    · obtain ⟨a1, w1, _, _, h1⟩ := wp_exists H
      have := ready_mono hj hji
      rw [h1.1] at this
      cases this
  | succ fuel ih =>
    intro listed m a w hC hD hfree hr hw H
    refine ⟨fun h => (by rw [h] at hr; cases hr), fun j hj => ?_⟩
    by_cases hji : j = i
    · subst hji; exact own _ _ _ _ hw H
    · obtain ⟨hjun, oj, hoj, hall⟩ := mem_ready.1 hj
      have hjD := hD.not_ready (mem_ready.1 hr).1 hj
      obtain ⟨hap, hkj⟩ := hfree j oj hoj hji hjD hjun
      obtain ⟨e1, e2, e3⟩ := Oper.apart_spec hap
      have hsi := fun cs b => hsel i oi cs b hi
      have hsj := fun cs b => hsel j oj cs b hoj
      have hfree' : ∀ k ok, ops[k]? = some ok → k ≠ i → k ∉ D → (listed.setIfInBounds j true).getD k true = false → oi.apart ops ok = true ∧ (ks k = .p ∨ (ks k = .s ∧ ks i = .w)) := fun k ok hk hki hkD hun => by
        refine hfree k ok hk hki hkD ?_
        by_cases hjk : j = k
        · subst hjk; exact hjun
        · rw [getD_set_ne true hjk] at hun; exact hun
      obtain ⟨CC, hCC, hfrom, hto⟩ : ∃ CC : World → Prop, (∀ w', cm C (mi m) w' → CC w' ∨ ks j = .s ∧ mi m = false) ∧
          (∀ (K : Bool → Act → World → Prop) a' w', opA P ops C ks (mi m) j K a' w' → ∃ u, YC P ops CC oj u a' ∧ (ks j = .s ∧ mi m = false → Region.wanted oj (yielded ops a'.tmps) = false) ∧ K (mi m) (a'.put oj.dst u) w') ∧
          (∀ (K : Bool → Act → World → Prop) a' w' u, YC P ops CC oj u a' → (ks j = .s ∧ mi m = false → Region.wanted oj (yielded ops a'.tmps) = false) → K m (a'.put oj.dst u) w' → opA P ops C ks m j K a' w') := by
        rcases hkj with hkj | ⟨hkj, hki⟩
        · refine ⟨any, fun _ _ => .inl trivial, fun K a' w' h => ?_, fun K a' w' u hu _ h => ?_⟩
          · unfold opA at h
            simp only [hoj, hkj] at h
            by_cases hwj : Region.wanted oj (yielded ops a'.tmps) = true
            · rw [if_pos hwj] at h
              obtain ⟨u, hu, hn⟩ := h
              refine ⟨u, .inl ⟨hwj, hu⟩, (fun hc => ?_), hn⟩
              rw [hkj] at hc
              cases hc.1
            · rw [if_neg hwj] at h
              refine ⟨undef, .inr ⟨by simpa using hwj, rfl⟩, (fun hc => ?_), h⟩
              rw [hkj] at hc
              cases hc.1
          · unfold opA
            simp only [hoj, hkj]
            rcases hu with ⟨hwj, hu⟩ | ⟨hwj, rfl⟩
            · rw [if_pos hwj]
              exact ⟨u, hu, h⟩
            · rw [if_neg (by rw [hwj]; simp)]
              exact h
        · have hmm : mi m = m := by
            rcases hmi m with ⟨_, h⟩ | ⟨h, _⟩
            · exact h
            · rw [hki] at h; cases h
          refine ⟨C, fun w' hc => ?_, fun K a' w' h => ?_, fun K a' w' u hu hno h => ?_⟩
          · cases hmb : mi m with
            | true => exact .inl (hc hmb)
            | false => exact .inr ⟨hkj, rfl⟩
          · unfold opA at h
            simp only [hoj, hkj] at h
            by_cases hwj : Region.wanted oj (yielded ops a'.tmps) = true
            · rw [if_pos hwj] at h
              obtain ⟨hmt, u, hu, hn⟩ := h
              refine ⟨u, .inl ⟨hwj, hu⟩, (fun hc => ?_), hn⟩
              rw [hmt] at hc
              cases hc.2
            · rw [if_neg hwj] at h
              exact ⟨undef, .inr ⟨by simpa using hwj, rfl⟩, (fun _ => by simpa using hwj), h⟩
          · unfold opA
            simp only [hoj, hkj]
            rcases hu with ⟨hwj, hu⟩ | ⟨hwj, rfl⟩
            · rw [if_pos hwj]
              refine ⟨?_, u, hu, h⟩
              cases hmb : m with
              | true => rfl
              | false =>
                rw [hno ⟨hkj, by rw [hmm, hmb]⟩] at hwj
                cases hwj
            · rw [if_neg (by rw [hwj]; simp)]
              exact h
      obtain ⟨a1, w1, ho1, hc1, h1⟩ := wp_exists H
      obtain ⟨u, hu, hno, _⟩ := hfrom _ _ _ (h1.2 j (ready_mono hj hji))
      have hu' : YC P ops CC oj u a := hu.same (out_exec ho1 hsj e1).symm (out_wanted ho1 e1).symm
      have hno' : ks j = .s ∧ mi m = false → Region.wanted oj (yielded ops a.tmps) = false := fun hc => by
        rw [← out_wanted ho1 e1]; exact hno hc
      refine hto _ _ _ u hu' hno' ?_
      refine ih _ _ _ w hC (hD.step hjD) hfree' (ready_mono hr (Ne.symm hji)) ?_ ?_
      · rw [wanted_put oi a oj.dst u e3]; exact hw
      · have fin : ∀ a2 w2, Out oi a a2 → cm C (mi m) w2 ∧ wpA P md ops C ks Q (fuel + 1) (listed.setIfInBounds i true) (mi m) a2 w2 → cm C (mi m) w2 ∧ wpA P md ops C ks Q fuel ((listed.setIfInBounds j true).setIfInBounds i true) (mi m) (a2.put oj.dst u) w2 := fun a2 w2 ho2 ⟨hc2, h2⟩ => by
          refine ⟨hc2, ?_⟩
          obtain ⟨u', hy', hno2, hk'⟩ := hfrom _ _ _ (h2.2 j (ready_mono hj hji))
          have hua := hu'.same (out_exec ho2 hsj e1) (out_wanted ho2 e1)
          have : u' = u := by
            rcases hCC w2 hc2 with hcc | hcc
            · exact hua.det hcc hcc hy'
            · have hn := hno2 hcc
              rcases hua with ⟨hwj, _⟩ | ⟨_, rfl⟩
              · rw [hn] at hwj; cases hwj
              · rcases hy' with ⟨hwj, _⟩ | ⟨_, rfl⟩
                · rw [hn] at hwj; cases hwj
                · rfl
          subst this
          rw [Array.setIfInBounds_comm _ _ hji]
          exact hk'
        refine wp_to (execOp_put oi hsi a oj.dst u e3) H (fun v w2 h2 => ?_) (fun d w2 h2 => ?_)
        · rw [← Act.put_comm _ v u (fun d hd he => e2 d hd he)]
          exact fin _ _ (.inl ⟨_, rfl⟩) h2
        · rw [Act.put_defers, ← Act.put_comm _ undef u (fun d hd he => e2 d hd he)]
          exact fin _ _ (.inr ⟨_, rfl⟩) h2
def hasEdge (md : Region.Mode) (ops : Array Oper) (k : Nat) (D : List Nat) (j : Nat) : Bool :=
  match ops[j]? with
  | some oj => oj.after.any fun e => Region.binds md e && (e.on == k || D.contains e.on)
  | none => false
def dset (md : Region.Mode) (ops : Array Oper) (k : Nat) : List Nat :=
  (List.range ops.size).foldl (fun D j => if k < j && hasEdge md ops k D j then j :: D else D) []
def fits (k j : Kind) : Bool :=
  match k, j with
  | .p, _ => true
  | .s, .x => false
  | .s, _ => true
  | .w, .p => true
  | .w, .s => true
  | .w, _ => false
  | .x, .p => true
  | .x, _ => false
def freeK (md : Region.Mode) (ops : Array Oper) (ks : Nat → Kind) (listed : Array Bool) (k : Nat) (D : List Nat) : Bool :=
  match ops[k]? with
  | none => true
  | some o =>
    D.all (fun j => !listed.getD j true && hasEdge md ops k D j) &&
    (List.range ops.size).all fun j => j == k || listed.getD j true || D.contains j ||
      (match ops[j]? with
       | none => true
       | some oj => o.apart ops oj && fits (ks k) (ks j))
def lexFrom (md : Region.Mode) (ops : Array Oper) (ks : Nat → Kind) : Nat → Nat → Array Bool → Bool
  | 0, _, listed => (Region.ready md ops listed).isEmpty
  | fuel + 1, k, listed => (Region.ready md ops listed).contains k && freeK md ops ks listed k (dset md ops k) && lexFrom md ops ks fuel (k + 1) (listed.setIfInBounds k true)
def lexB (md : Region.Mode) (ops : Array Oper) (ks : List Kind) : Bool := Region.noSelect ops && lexFrom md ops (fun i => ks.getD i .p) ops.size 0 (Array.replicate ops.size false)
theorem free_waits {k : Nat} {ok : Oper} {listed : Array Bool} {D : List Nat} (hk : ops[k]? = some ok) (h : freeK md ops ks listed k D = true) : Waits md ops listed k D := by
  intro j hj
  simp only [freeK, hk, Bool.and_eq_true, List.all_eq_true] at h
  have h1 := h.1 j hj
  simp only [Bool.not_eq_true'] at h1
  refine ⟨h1.1, ?_⟩
  have h2 := h1.2
  unfold hasEdge at h2
  split at h2
  · rename_i oj hoj
    obtain ⟨e, he, hb⟩ := Array.any_eq_true'.1 h2
    simp only [Bool.and_eq_true, Bool.or_eq_true, beq_iff_eq, List.contains_iff_mem] at hb
    exact ⟨oj, hoj, e, he, hb.1, hb.2⟩
  · cases h2
theorem free_apart {k : Nat} {ok : Oper} {listed : Array Bool} {D : List Nat} (hk : ops[k]? = some ok) (h : freeK md ops ks listed k D = true) (j : Nat) (oj : Oper) (hj : ops[j]? = some oj) (hne : j ≠ k) (hD : j ∉ D) (hun : listed.getD j true = false) :
    ok.apart ops oj = true ∧ fits (ks k) (ks j) = true := by
  simp only [freeK, hk, Bool.and_eq_true, List.all_eq_true, List.mem_range] at h
  have h1 := h.2 j (Array.getElem?_eq_some_iff.1 hj).1
  simpa only [hj, Bool.or_eq_true, beq_iff_eq, hne, false_or, hun, Bool.false_eq_true, List.contains_iff_mem, hD, Bool.and_eq_true] using h1
theorem wpA_lex {kl : List Kind} (hs : Region.noSelect ops = true) : ∀ (l : List Oper) (kt : List Kind) (k : Nat) (listed : Array Bool) (m : Bool) (a : Act) (w : World), cm C m w → (∀ j, l[j]? = ops[k + j]?) → (∀ j, kt.getD j .p = kl.getD (k + j) .p) →
    lexFrom md ops (fun i => kl.getD i .p) l.length k listed = true → wpLex P ops C Q l kt m a w → wpA P md ops C (fun i => kl.getD i .p) Q l.length listed m a w
  | [], _, _, _, _, _, _, _, _, _, hB, h => ⟨by simpa [lexFrom] using hB, h⟩
  | o :: l, kt, k, listed, m, a, w, hC, hl, hkt, hB, h => by
    have h0 : ops[k]? = some o := by simpa using (hl 0).symm
    have hk0 : kt.headD .p = kl.getD k .p := by
      have := hkt 0
      cases kt with
      | nil => simpa using this
      | cons kd xs => simpa using this
    have hkt' : ∀ j, kt.tail.getD j .p = kl.getD (k + 1 + j) .p := fun j => by
      have := hkt (j + 1)
      cases kt with
      | nil => simpa [Nat.add_assoc, Nat.add_comm 1 j] using this
      | cons kd xs => simpa [Nat.add_assoc, Nat.add_comm 1 j] using this
    have hl' : ∀ j, l[j]? = ops[k + 1 + j]? := fun j => by have := hl (j + 1); simpa [Nat.add_assoc, Nat.add_comm 1 j] using this
    simp only [List.length_cons, lexFrom, Bool.and_eq_true] at hB
    obtain ⟨⟨hr, hf⟩, hB'⟩ := hB
    have hsel := Region.noSelect_spec hs
    have hr' : k ∈ Region.ready md ops listed := by simpa using hr
    have hW := free_waits h0 hf
    have hA := free_apart h0 hf
    have next : ∀ m' a' w', cm C m' w' → wpLex P ops C Q l kt.tail m' a' w' → wpA P md ops C (fun i => kl.getD i .p) Q l.length (listed.setIfInBounds k true) m' a' w' := fun m' a' w' hc hh => wpA_lex hs l kt.tail (k + 1) _ m' a' w' hc hl' hkt' hB' hh
    simp only [wpLex] at h
    by_cases hw : Region.wanted o (yielded ops a.tmps) = true
    · rw [if_pos hw, hk0] at h
      have hA' : ∀ j oj, ops[j]? = some oj → j ≠ k → j ∉ dset md ops k → listed.getD j true = false → o.apart ops oj = true ∧ fits (kl.getD k .p) (kl.getD j .p) = true := hA
      cases hkk : kl.getD k .p with
      | p =>
        rw [hkk] at h
        obtain ⟨v, hv, hn⟩ := h
        refine first_s (Y := YC P ops any o v) (A := fun _ => True) (v := v) (D := dset md ops k) h0 (fun _ _ hy he hw => hy.same he hw) hsel (fun K m a w _ hc hy hk => ?_) l.length listed m a w trivial hC hW (fun j oj hj hne hjD hun => ⟨(hA j oj hj hne hjD hun).1, fun _ => trivial⟩) hr' (.inl ⟨hw, hv⟩) (next _ _ _ hC hn)
        unfold opA
        simp only [h0, hkk]
        rcases hy with ⟨hwj, hu⟩ | ⟨hwj, rfl⟩
        · rw [if_pos hwj]
          exact ⟨v, hu, hk⟩
        · rw [if_neg (by rw [hwj]; simp)]
          exact hk
      | s =>
        rw [hkk] at h
        obtain ⟨hmt, v, hv, hn⟩ := h
        refine first_s (Y := YC P ops C o v) (A := fun m => m = true) (v := v) (D := dset md ops k) h0 (fun _ _ hy he hw => hy.same he hw) hsel (fun K m a w hm hc hy hk => ?_) l.length listed m a w hmt hC hW (fun j oj hj hne hjD hun => ?_) hr' (.inl ⟨hw, hv⟩) (next _ _ _ hC hn)
        · unfold opA
          simp only [h0, hkk]
          rcases hy with ⟨hwj, hu⟩ | ⟨hwj, rfl⟩
          · rw [if_pos hwj]
            exact ⟨hm, v, hu, hk⟩
          · rw [if_neg (by rw [hwj]; simp)]
            exact hk
        · have h3 := hA' j oj hj hne hjD hun
          refine ⟨h3.1, fun hx => ?_⟩
          have h4 := h3.2
          rw [hkk, hx] at h4
          cases h4
      | w =>
        rw [hkk] at h
        refine first_w (D := dset md ops k) h0 hsel (fun m => m) (fun m => .inl ⟨hkk, rfl⟩) l.length listed m a w hC hW (fun j oj hj hne hjD hun => ?_) hr' hw ?_
        · have h3 := hA' j oj hj hne hjD hun
          refine ⟨h3.1, ?_⟩
          have h4 := h3.2
          rw [hkk] at h4
          cases hkj : kl.getD j .p with
          | p => exact .inl rfl
          | s => exact .inr ⟨rfl, hkk⟩
          | w => rw [hkj] at h4; cases h4
          | x => rw [hkj] at h4; cases h4
        · exact wp_any_mono h fun a' w' ⟨hc, hh⟩ => ⟨hc, next _ _ _ hc hh⟩
      | x =>
        rw [hkk] at h
        refine first_w (D := dset md ops k) h0 hsel (fun _ => false) (fun m => .inr ⟨hkk, rfl⟩) l.length listed m a w hC hW (fun j oj hj hne hjD hun => ?_) hr' hw ?_
        · have h3 := hA' j oj hj hne hjD hun
          refine ⟨h3.1, ?_⟩
          have h4 := h3.2
          rw [hkk] at h4
          cases hkj : kl.getD j .p with
          | p => exact .inl rfl
          | s => rw [hkj] at h4; cases h4
          | w => rw [hkj] at h4; cases h4
          | x => rw [hkj] at h4; cases h4
        · exact wp_any_mono h fun a' w' hh => ⟨(fun e => by cases e), next _ _ _ (fun e => by cases e) hh⟩
    · rw [if_neg hw] at h
      have hw' : Region.wanted o (yielded ops a.tmps) = false := by simpa using hw
      refine first_s (Y := fun a => Region.wanted o (yielded ops a.tmps) = false) (A := fun _ => True) (v := undef) (D := dset md ops k) h0 (fun _ _ hy _ hw => hw.trans hy) hsel (fun K m a w _ hc hy hk => ?_) l.length listed m a w trivial hC hW (fun j oj hj hne hjD hun => ⟨(hA j oj hj hne hjD hun).1, fun _ => trivial⟩) hr' hw' (next _ _ _ hC h)
      unfold opA
      simp only [h0]
      rw [if_neg (by rw [hy]; simp)]
      exact hk
theorem wp_region_mix {id : Nat} {Q : Exit → Act → World → Prop} {a : Act} {w : World} {l : List Oper} (C : World → Prop) (kl : List Kind) (hm : P.follows .mixedOrders = true) (hB : lexB .any l.toArray kl = true)
    (hC : C w.drew) (h : wpLex P l.toArray C (fun a' w' => Q .normal a' w') l kl true a w.drew) : (Code.region id l.toArray true).wp P Q a w := by
  simp only [lexB, Bool.and_eq_true] at hB
  refine wp_region_any hm (wpAny_of_A (C := C) (ks := fun i => kl.getD i .p) (Q := fun a' w' => Q .normal a' w') (fun _ _ h => h) _ _ true _ _ (fun _ => hC) ?_)
  have := wpA_lex (C := C) (md := .any) (kl := kl) hB.1 l kl 0 (Array.replicate l.toArray.size false) true a w.drew (fun _ => hC) (by simp) (by simp) (by simpa using hB.2) h
  simpa using this
section
variable {o : Oper} {rest : List Oper} {kt : List Kind} {m : Bool} {a : Act} {w : World}
theorem lex_nil (h : Q a w) : wpLex P ops C Q [] kt m a w := h
theorem wp_of_list {K : Act → World → Prop} (hw : Region.wanted o (yielded ops a.tmps) = true) (h : wpList P ops (Exit.then K NoX) [o] a w) : o.wp P a w K NoX := by
  simp only [wpList] at h
  rw [if_pos hw] at h
  rcases h with h1 | h1
  · unfold Oper.wp at *
    generalize (execOp a.eval o).run P w = r at *
    cases r with
    | ok n w' =>
      cases n <;> simp only [Oper.upon] at h1 ⊢
      case value v => exact h1
      case skip => exact h1
      case defer d => exact h1
      case enter f args =>
        refine Calls.mono h1 fun e w'' hr => ?_
        cases e with
        | returned v => exact hr
        | panicked c => exact hr.elim
        | outgrown =>
          obtain ⟨_, _, hr⟩ := hr
          exact hr.elim
      case row row args => exact Rows.mono h1 fun _ _ hr => hr
    | halt x w' => cases x <;> simp only [Oper.upon] at h1 ⊢ <;> exact h1
  · obtain ⟨_, _, _, h1⟩ := h1
    exact h1.elim
theorem lex_w (h : ∀ K : Act → World → Prop, (∀ a w, C w → wpLex P ops C Q rest kt true a w → K a w) → wpList P ops (Exit.then K NoX) [o] a w) : wpLex P ops C Q (o :: rest) (.w :: kt) true a w := by
  have h1 := h (fun a w => C w ∧ wpLex P ops C Q rest kt true a w) (fun _ _ h1 h2 => ⟨h1, h2⟩)
  simp only [wpLex, List.headD_cons, List.tail_cons]
  split
  · rename_i hw
    exact wp_any_mono (wp_of_list hw h1) fun _ _ h => ⟨fun _ => h.1, h.2⟩
  · rename_i hw
    simp only [wpList, if_neg hw, Exit.then] at h1
    exact h1.2
theorem lex_x (h : ∀ K : Act → World → Prop, (∀ m a w, wpLex P ops C Q rest kt m a w → K a w) → wpList P ops (Exit.then K NoX) [o] a w)
    (hmode : ∀ m m' a w, wpLex P ops C Q rest kt m a w → wpLex P ops C Q rest kt m' a w) : wpLex P ops C Q (o :: rest) (.x :: kt) m a w := by
  have h1 := h (fun a w => wpLex P ops C Q rest kt false a w) (fun m' a w h => hmode _ _ _ _ h)
  simp only [wpLex, List.headD_cons, List.tail_cons]
  split
  · rename_i hw
    exact wp_of_list hw h1
  · rename_i hw
    simp only [wpList, if_neg hw, Exit.then] at h1
    exact hmode _ _ _ _ h1
end
theorem lex_mode : ∀ (l : List Oper) (kt : List Kind), (kt.all fun k => k == .p || k == .x) = true → ∀ m m' a w, wpLex P ops C Q l kt m a w → wpLex P ops C Q l kt m' a w
  | [], _, _, _, _, _, _, h => h
  | o :: l, kt, hk, m, m', a, w, h => by
    have hk' : (kt.tail.all fun k => k == .p || k == .x) = true := by
      cases kt with
      | nil => rfl
      | cons kd xs => simp only [List.all_cons, Bool.and_eq_true] at hk; exact hk.2
    have ih := lex_mode l kt.tail hk'
    simp only [wpLex] at h ⊢
    split at h
    · rename_i hw
      rw [if_pos hw]
      have h0 : kt.headD .p = .p ∨ kt.headD .p = .x := by
        cases kt with
        | nil => exact .inl rfl
        | cons kd xs =>
          simp only [List.all_cons, Bool.and_eq_true, Bool.or_eq_true, beq_iff_eq] at hk
          exact hk.1
      rcases h0 with h0 | h0
      · rw [h0] at h ⊢
        obtain ⟨v, hv, hn⟩ := h
        exact ⟨v, hv, ih _ _ _ _ hn⟩
      · rw [h0] at h ⊢
        exact h
    · rename_i hw
      rw [if_neg hw]
      exact ih _ _ _ _ h
theorem map_run {α : Type} {s : Sem α} {f : α → Next} {w w' : World} {n : Next} (h : (s >>= fun a => pure (f a)).run P w = .ok n w') : ∃ a, n = f a := by
  rw [Sem.run_bind] at h
  cases hs : s.run P w with
  | ok a w1 =>
    rw [hs] at h
    simp only [Result.andThen, Sem.run_pure, Result.ok.injEq] at h
    exact ⟨a, h.1.symm⟩
  | halt x w1 =>
    rw [hs] at h
    simp only [Result.andThen] at h
    cases h
def plainOp : Op → Bool
  | .move _ | .assign _ | .pick .. | .load .. | .fieldAddr .. | .field .. | .indexAddr .. | .index .. | .extract .. | .unOp .. | .binOp .. | .build .. | .slice .. | .convert .. | .makeInterface .. | .lookup .. | .nilCheck _ => true
  | .call c => match c.callee with
    | .builtin .len | .builtin .cap | .builtin .min | .builtin .max => true
    | _ => false
  | _ => false
theorem plain_run {o : Oper} {ρ : Operand → Value} {w w' : World} {f : FuncId} {args : Array Value} (hp : plainOp o.op = true) (h : (execOp ρ o).run P w = .ok (.enter f args) w') : False := by
  obtain ⟨dst, op, type, pos, after, guard⟩ := o
  cases op <;> simp only [plainOp, Bool.false_eq_true] at hp
  case move => simp only [execOp, Sem.run_pure, Result.ok.injEq] at h; cases h.1
  case assign => simp only [execOp, Sem.run_pure, Result.ok.injEq] at h; cases h.1
  case nilCheck x =>
    simp only [execOp] at h
    split at h
    case h_1 => simp [runtimePanic, goPanic, go_sem] at h
    case h_2 => simp [runtimePanic, goPanic, go_sem] at h
    case h_3 => simp [runtimePanic, goPanic, go_sem] at h
    case h_4 =>
      split at h
      · simp [runtimePanic, goPanic, go_sem] at h
      · rename_i nm _ _ _ _ t v _
        rw [Sem.run_bind] at h
        cases hp1 : (program).run P w with
        | ok p1 w1 =>
          rw [hp1] at h
          simp only [Result.andThen] at h
          rw [Sem.run_bind] at h
          cases hn : (nilAhead (p1.types.size + Made.depth) t v nm).run P w1 with
          | ok q w2 =>
            rw [hn] at h
            simp only [Result.andThen] at h
            split at h
            · simp [go_sem] at h
            · simp only [Sem.run_pure, Result.ok.injEq] at h; cases h.1
          | halt q w2 =>
            rw [hn] at h
            simp only [Result.andThen] at h
            cases h
        | halt q w1 =>
          rw [hp1] at h
          simp only [Result.andThen] at h
          cases h
      · simp only [Sem.run_pure, Result.ok.injEq] at h; cases h.1
    case h_5 => simp only [Sem.run_pure, Result.ok.injEq] at h; cases h.1
  case call c =>
    obtain ⟨callee, args', argTypes⟩ := c
    cases callee with
    | builtin b =>
      cases b <;> simp only [Bool.false_eq_true] at hp
      all_goals
        simp only [execOp, resolve, invoke, builtin, Sem.run_bind, Sem.run_pure, Result.andThen] at h
        split at h <;> cases h
    | value f => cases hp
    | invoke r m => cases hp
  all_goals (obtain ⟨a, ha⟩ := map_run h; cases ha)
theorem still_of_quiet {o : Oper} {a : Act} {K : Act → Prop} (hp : plainOp o.op = true) (h : o.quiet P a C K) : still P C o a K := by
  obtain ⟨v, hv, hk⟩ := h
  refine ⟨v, fun w hw => ?_, hk⟩
  have h1 := hv w hw
  unfold Oper.quietAt at h1
  unfold stillAt
  have hn := @plain_run P o a.eval w
  generalize (execOp a.eval o).run P w = r at *
  cases r with
  | ok n w' =>
    cases n <;> simp only [Oper.quietUpon] at h1 <;> simp only [stillUpon]
    case value u => exact h1
    case skip => exact h1
    case enter f args => exact hn hp rfl
  | halt x w' => simp only [Oper.quietUpon] at h1
theorem lex_q (n : Nat) : ∀ (l : List Oper) (kt : List Kind) (a : Act) (w : World), ((kt.take n).length == n && (kt.take n).all (· == .s) && (l.take n).all (fun o => plainOp o.op)) = true →
    wpQuiet P ops C (fun a' => wpLex P ops C Q (l.drop n) (kt.drop n) true a' w) (l.take n) a → wpLex P ops C Q l kt true a w := by
  induction n with
  | zero => exact fun l kt a w _ h => h
  | succ n ih =>
    intro l kt a w hb h
    cases kt with
    | nil => simp at hb
    | cons kd kt =>
      simp only [List.take_succ_cons, List.length_cons, List.all_cons, Bool.and_eq_true, beq_iff_eq] at hb
      obtain ⟨⟨hl, hk, hks⟩, hp⟩ := hb
      cases l with
      | nil => exact h
      | cons o l =>
        simp only [List.take_succ_cons, List.all_cons, Bool.and_eq_true] at hp
        simp only [List.take_succ_cons, List.drop_succ_cons, wpQuiet] at h
        have ih' := fun a w => ih l kt a w (by simp only [Bool.and_eq_true, beq_iff_eq]; exact ⟨⟨by omega, hks⟩, hp.2⟩)
        subst hk
        simp only [wpLex, List.headD_cons, List.tail_cons]
        split
        · rename_i hw
          rw [if_pos hw] at h
          refine ⟨rfl, still_of_quiet hp.1 ?_⟩
          obtain ⟨v, hv, hk⟩ := h
          exact ⟨v, hv, ih' _ _ hk⟩
        · rename_i hw
          rw [if_neg hw] at h
          exact ih' _ _ h
theorem lex_qp (n : Nat) : ∀ (l : List Oper) (kt : List Kind) (m : Bool) (a : Act) (w : World), ((kt.take n).length == n && (kt.take n).all (· == .p) && (l.take n).all (fun o => plainOp o.op)) = true →
    wpQuiet P ops (fun _ => True) (fun a' => wpLex P ops C Q (l.drop n) (kt.drop n) m a' w) (l.take n) a → wpLex P ops C Q l kt m a w := by
  induction n with
  | zero => exact fun l kt m a w _ h => h
  | succ n ih =>
    intro l kt m a w hb h
    cases kt with
    | nil => simp at hb
    | cons kd kt =>
      simp only [List.take_succ_cons, List.length_cons, List.all_cons, Bool.and_eq_true, beq_iff_eq] at hb
      obtain ⟨⟨hl, hk, hks⟩, hp⟩ := hb
      cases l with
      | nil => exact h
      | cons o l =>
        simp only [List.take_succ_cons, List.all_cons, Bool.and_eq_true] at hp
        simp only [List.take_succ_cons, List.drop_succ_cons, wpQuiet] at h
        have ih' := fun a w => ih l kt m a w (by simp only [Bool.and_eq_true, beq_iff_eq]; exact ⟨⟨by omega, hks⟩, hp.2⟩)
        subst hk
        simp only [wpLex, List.headD_cons, List.tail_cons]
        split
        · rename_i hw
          rw [if_pos hw] at h
          obtain ⟨v, hv, hk⟩ := h
          exact still_of_quiet (C := any) (K := fun a' => wpLex P ops C Q l kt m a' w) hp.1 ⟨v, hv, ih' _ _ hk⟩
        · rename_i hw
          rw [if_neg hw] at h
          exact ih' _ _ h
structure In (C0 : World → Prop) where
  w : World
  h : C0 w
theorem cls_mk {C0 : World → Prop} {w : World} (h : C0 w) : (fun w' => ∃ m : In C0, w' = m.w) w := ⟨⟨w, h⟩, rfl⟩
structure On (p : Prop) : Prop where mk :: (out : p)
theorem region {id : Nat} {Q : Exit → Act → World → Prop} {a : Act} {w : World} {l : List Oper} (C0 : World → Prop) (kl : List Kind) (hm : P.follows .mixedOrders = true) (hB : lexB .any l.toArray kl = true)
    (hC : C0 w.drew) (h : Nonempty (In C0) → wpLex P l.toArray (fun w' => ∃ m : In C0, w' = m.w) (fun a' w' => Q .normal a' w') l kl true a w.drew) : (Code.region id l.toArray true).wp P Q a w :=
  wp_region_mix _ kl hm hB (cls_mk hC) (h ⟨⟨_, hC⟩⟩)
theorem step_w {C0 : World → Prop} {o : Oper} {rest : List Oper} {kt : List Kind} {a : Act} {w : World} (h : ∀ K : Act → World → Prop, On (∀ a w, C0 w → wpLex P ops (fun w' => ∃ m : In C0, w' = m.w) Q rest kt true a w → K a w) → wpList P ops (Exit.then K NoX) [o] a w) : wpLex P ops (fun w' => ∃ m : In C0, w' = m.w) Q (o :: rest) (.w :: kt) true a w :=
  lex_w fun K hK => h K ⟨fun a w hc hh => hK a w (cls_mk hc) hh⟩
theorem step_x {o : Oper} {rest : List Oper} {kt : List Kind} {m : Bool} {a : Act} {w : World} (hk : (kt.all fun k => k == .p || k == .x) = true) (h : ∀ K : Act → World → Prop, On (∀ a w, wpLex P ops C Q rest kt true a w → K a w) → wpList P ops (Exit.then K NoX) [o] a w) : wpLex P ops C Q (o :: rest) (.x :: kt) m a w :=
  lex_x (fun K hK => h K ⟨fun a w hh => hK true a w hh⟩) (lex_mode rest kt hk)
end Go.Reg
end
section
namespace Go.Rg
set_option linter.unusedVariables false
set_option linter.unusedSimpArgs false
open Go Go.Reg
variable {P : Program} {ops : Array Oper} {md : Region.Mode} {C : World → Prop} {R : World → World → Prop} {Q : Act → World → Prop}
inductive Kind where
  | p | s | r | v | w | x
  deriving DecidableEq
def opK (P : Program) (C : World → Prop) (R : World → World → Prop) (m : Bool) (g : World) (k : Kind) (o : Oper) (K : Bool → World → Act → World → Prop) (a : Act) (w : World) : Prop :=
  match k with
  | .p => still P any o a (fun a' => K m g a' w)
  | .s => m = true ∧ still P C o a (fun a' => K m g a' w)
  | .r => m = true ∧ still P (fun x => C x ∧ R g x) o a (fun a' => K m g a' w)
  | .v => o.wp P a w (fun a' w' => (cm C m w' ∧ (m = true → R w w')) ∧ K m g a' w') NoX
  | .w => o.wp P a w (fun a' w' => (cm C m w' ∧ (m = true → R w w')) ∧ K m w' a' w') NoX
  | .x => o.wp P a w (fun a' w' => K false g a' w') NoX
def wpLex (P : Program) (ops : Array Oper) (C : World → Prop) (R : World → World → Prop) (Q : Act → World → Prop) : List Oper → List Kind → Bool → World → Act → World → Prop
  | [], _, _, _, a, w => Q a w
  | o :: rest, ks, m, g, a, w =>
    if Region.wanted o (yielded ops a.tmps) then opK P C R m g (ks.headD .p) o (fun m' g' a' w' => wpLex P ops C R Q rest ks.tail m' g' a' w') a w
    else wpLex P ops C R Q rest ks.tail m g (a.put o.dst undef) w
variable {ks : Nat → Kind}
def opA (P : Program) (ops : Array Oper) (C : World → Prop) (R : World → World → Prop) (ks : Nat → Kind) (m : Bool) (g : World) (i : Nat) (K : Bool → World → Act → World → Prop) (a : Act) (w : World) : Prop :=
  match ops[i]? with
  | none => K m g a w
  | some o => if Region.wanted o (yielded ops a.tmps) then opK P C R m g (ks i) o K a w else K m g (a.put o.dst undef) w
def wpA (P : Program) (md : Region.Mode) (ops : Array Oper) (C : World → Prop) (R : World → World → Prop) (ks : Nat → Kind) (Q : Act → World → Prop) : Nat → Array Bool → Bool → World → Act → World → Prop
  | 0, listed, _, _, a, w => Region.ready md ops listed = [] ∧ Q a w
  | fuel + 1, listed, m, g, a, w =>
    (Region.ready md ops listed = [] → Q a w) ∧ ∀ i ∈ Region.ready md ops listed, opA P ops C R ks m g i (wpA P md ops C R ks Q fuel (listed.setIfInBounds i true)) a w
def J (C : World → Prop) (R : World → World → Prop) (m : Bool) (g w : World) : Prop := cm C m w ∧ (m = true → R g w)
theorem opK_wp {m : Bool} {g : World} {k : Kind} {o : Oper} {K : Bool → World → Act → World → Prop} {K' : Act → World → Prop} {a : Act} {w : World} {Q' : Exit → Act → World → Prop} (hrr : ∀ w, R w w) (hrt : ∀ x y z, R x y → R y z → R x z) (hC : J C R m g w) (h : opK P C R m g k o K a w) (hk : ∀ m' g' a' w', J C R m' g' w' → K m' g' a' w' → K' a' w') : o.wp P a w K' Q' := by
  cases k with
  | p =>
    obtain ⟨v, hv, h⟩ := h
    exact wp_of_still (hv w trivial) (hk _ _ _ _ hC h)
  | s =>
    obtain ⟨hm, v, hv, h⟩ := h
    exact wp_of_still (hv w (hC.1 hm)) (hk _ _ _ _ hC h)
  | r =>
    obtain ⟨hm, v, hv, h⟩ := h
    exact wp_of_still (hv w ⟨hC.1 hm, hC.2 hm⟩) (hk _ _ _ _ hC h)
  | v => exact wp_any_mono h fun a' w' ⟨hc, hh⟩ => hk _ _ _ _ ⟨hc.1, fun e => hrt _ _ _ (hC.2 e) (hc.2 e)⟩ hh
  | w => exact wp_any_mono h fun a' w' ⟨hc, hh⟩ => hk _ _ _ _ ⟨hc.1, fun _ => hrr _⟩ hh
  | x => exact wp_any_mono h fun a' w' hh => hk _ _ _ _ ⟨(fun e => by cases e), (fun e => by cases e)⟩ hh
theorem wpAny_of_A {Q' : Exit → Act → World → Prop} (hrr : ∀ w, R w w) (hrt : ∀ x y z, R x y → R y z → R x z) (hQ : ∀ a w, Q a w → Q' .normal a w) : ∀ (fuel : Nat) (listed : Array Bool) (m : Bool) (g : World) (a : Act) (w : World), J C R m g w →
    wpA P md ops C R ks Q fuel listed m g a w → wpAny P md ops Q' fuel listed a w
  | 0, _, _, _, _, _, _, h => ⟨h.1, hQ _ _ h.2⟩
  | fuel + 1, listed, m, g, a, w, hC, h => by
    refine ⟨fun h0 => hQ _ _ (h.1 h0), fun i hi => ?_⟩
    have h1 := h.2 i hi
    unfold opA at h1
    unfold wpOp
    split
    · rename_i ho; simp only [ho] at h1; exact wpAny_of_A hrr hrt hQ fuel _ _ _ _ _ hC h1
    · rename_i o ho
      simp only [ho] at h1
      split
      · rename_i hw
        simp only [hw, if_true] at h1
        exact .inl (opK_wp hrr hrt hC h1 fun m' g' a' w' hc hk => wpAny_of_A hrr hrt hQ fuel _ _ _ _ _ hc hk)
      · rename_i hw
        simp only [hw] at h1
        exact wpAny_of_A hrr hrt hQ fuel _ _ _ _ _ hC h1
theorem first_s {Y : Act → Prop} {A : Bool → Prop} {i : Nat} {oi : Oper} {v : Value} {D : List Nat} (I : Bool → World → World → Prop) (hIw : ∀ m g w w', I m g w → cm C m w' → (m = true → R w w') → I m w' w') (hIv : ∀ m g w w', I m g w → cm C m w' → (m = true → R w w') → I m g w') (hIx : ∀ g w, I false g w) (hi : ops[i]? = some oi)
    (hsame : ∀ a a', Y a → execOp a'.eval oi = execOp a.eval oi → Region.wanted oi (yielded ops a'.tmps) = Region.wanted oi (yielded ops a.tmps) → Y a') (hsel : ∀ (j : Nat) (o : Oper) cs b, ops[j]? = some o → o.op ≠ .select cs b)
    (hown : ∀ (K : Bool → World → Act → World → Prop) (m : Bool) (g : World) (a : Act) (w : World), A m → I m g w → Y a → K m g (a.put oi.dst v) w → opA P ops C R ks m g i K a w) :
    ∀ (fuel : Nat) (listed : Array Bool) (m : Bool) (g : World) (a : Act) (w : World), A m → I m g w → Waits md ops listed i D →
      (∀ j oj, ops[j]? = some oj → j ≠ i → j ∉ D → listed.getD j true = false → oi.apart ops oj = true ∧ (ks j = .x → A false)) →
      i ∈ Region.ready md ops listed → Y a → wpA P md ops C R ks Q fuel (listed.setIfInBounds i true) m g (a.put oi.dst v) w → wpA P md ops C R ks Q (fuel + 1) listed m g a w := by
  intro fuel
  induction fuel with
  | zero =>
    intro listed m g a w hA hC hD _ hr hy H
    refine ⟨fun h => (by rw [h] at hr; cases hr), fun j hj => ?_⟩
    by_cases hji : j = i
    · subst hji; exact hown _ _ _ _ _ hA hC hy H
    · have := ready_mono hj hji
      rw [H.1] at this
      cases this
  | succ fuel ih =>
    intro listed m g a w hA hC hD hfree hr hy H
    refine ⟨fun h => (by rw [h] at hr; cases hr), fun j hj => ?_⟩
    by_cases hji : j = i
    · subst hji; exact hown _ _ _ _ _ hA hC hy H
    · have h1 := H.2 j (ready_mono hj hji)
      obtain ⟨hjun, oj, hoj, hall⟩ := mem_ready.1 hj
      have hjD := hD.not_ready (mem_ready.1 hr).1 hj
      obtain ⟨hap, hjx⟩ := hfree j oj hoj hji hjD hjun
      obtain ⟨e1, e2, e3⟩ := Oper.apart_spec hap
      have hsi := fun cs b => hsel i oi cs b hi
      have hsj := fun cs b => hsel j oj cs b hoj
      have hx : execOp (a.put oi.dst v).eval oj = execOp a.eval oj := execOp_put oj hsj a oi.dst v e1
      have hwt := wanted_put (ops := ops) oj a oi.dst v e1
      have hfree' : ∀ k ok, ops[k]? = some ok → k ≠ i → k ∉ D → (listed.setIfInBounds j true).getD k true = false → oi.apart ops ok = true ∧ (ks k = .x → A false) := fun k ok hk hki hkD hun => by
        refine hfree k ok hk hki hkD ?_
        by_cases hjk : j = k
        · subst hjk; exact hjun
        · rw [getD_set_ne true hjk] at hun; exact hun
      have go : ∀ m1 g1 a1 w1, A m1 → I m1 g1 w1 → Y a1 → wpA P md ops C R ks Q fuel ((listed.setIfInBounds i true).setIfInBounds j true) m1 g1 (a1.put oi.dst v) w1 → wpA P md ops C R ks Q (fuel + 1) (listed.setIfInBounds j true) m1 g1 a1 w1 := fun m1 g1 a1 w1 hA1 hc1 hy1 hh => by
        refine ih _ m1 g1 a1 w1 hA1 hc1 (hD.step hjD) hfree' (ready_mono hr (Ne.symm hji)) hy1 ?_
        rw [Array.setIfInBounds_comm _ _ hji]
        exact hh
      have keep : ∀ u, Y (a.put oj.dst u) := fun u => hsame _ _ hy (execOp_put oi hsi a oj.dst u e3) (wanted_put oi a oj.dst u e3)
      have keepd : ∀ d, Y (Act.put { a with defers := d :: a.defers } oj.dst undef) := fun d => hsame _ _ hy (execOp_put oi hsi { a with defers := d :: a.defers } oj.dst undef e3) (wanted_put oi { a with defers := d :: a.defers } oj.dst undef e3)
      have comm : ∀ u, (a.put oi.dst v).put oj.dst u = (a.put oj.dst u).put oi.dst v := fun u => Act.put_comm _ v u e2
      have commd : ∀ d, Act.put { a.put oi.dst v with defers := d :: (a.put oi.dst v).defers } oj.dst undef = (Act.put { a with defers := d :: a.defers } oj.dst undef).put oi.dst v := fun d => by
        rw [Act.put_defers]
        exact Act.put_comm _ v undef e2
      have stl : ∀ (E : World → Prop) (K K' : Act → Prop), still P E oj (a.put oi.dst v) K → (∀ u, K ((a.put oj.dst u).put oi.dst v) → K' (a.put oj.dst u)) → still P E oj a K' := fun E K K' h hk => by
        obtain ⟨u, hu, hn⟩ := h
        refine ⟨u, fun w' hw' => ?_, hk u (by rw [← comm]; exact hn)⟩
        have := hu w' hw'
        unfold stillAt at *
        rwa [hx] at this
      unfold opA at h1 ⊢
      simp only [hoj] at h1 ⊢
      rw [hwt] at h1
      split at h1
      · rename_i hw
        rw [if_pos hw]
        cases hkj : ks j with
        | p =>
          rw [hkj] at h1
          have h2 : still P any oj (a.put oi.dst v) (fun a' => wpA P md ops C R ks Q fuel ((listed.setIfInBounds i true).setIfInBounds j true) m g a' w) := h1
          refine stl any _ (fun a' => wpA P md ops C R ks Q (fuel + 1) (listed.setIfInBounds j true) m g a' w) h2 fun u hn => ?_
          exact go _ _ _ _ hA hC (keep u) hn
        | s =>
          rw [hkj] at h1
          have h2 : still P C oj (a.put oi.dst v) (fun a' => wpA P md ops C R ks Q fuel ((listed.setIfInBounds i true).setIfInBounds j true) m g a' w) := h1.2
          refine ⟨h1.1, stl C _ (fun a' => wpA P md ops C R ks Q (fuel + 1) (listed.setIfInBounds j true) m g a' w) h2 fun u hn => ?_⟩
          exact go _ _ _ _ hA hC (keep u) hn
        | r =>
          rw [hkj] at h1
          have h2 : still P (fun x => C x ∧ R g x) oj (a.put oi.dst v) (fun a' => wpA P md ops C R ks Q fuel ((listed.setIfInBounds i true).setIfInBounds j true) m g a' w) := h1.2
          refine ⟨h1.1, stl (fun x => C x ∧ R g x) _ (fun a' => wpA P md ops C R ks Q (fuel + 1) (listed.setIfInBounds j true) m g a' w) h2 fun u hn => ?_⟩
          exact go _ _ _ _ hA hC (keep u) hn
        | v =>
          rw [hkj] at h1
          refine wp_to hx.symm h1 (fun u w1 ⟨hc1, hh⟩ => ⟨hc1, ?_⟩) (fun d w1 ⟨hc1, hh⟩ => ⟨hc1, ?_⟩)
          · refine go _ _ _ _ hA (hIv _ _ _ _ hC hc1.1 hc1.2) (keep u) ?_
            rw [← comm]
            exact hh
          · refine go _ _ _ _ hA (hIv _ _ _ _ hC hc1.1 hc1.2) (keepd d) ?_
            rw [← commd]
            exact hh
        | w =>
          rw [hkj] at h1
          refine wp_to hx.symm h1 (fun u w1 ⟨hc1, hh⟩ => ⟨hc1, ?_⟩) (fun d w1 ⟨hc1, hh⟩ => ⟨hc1, ?_⟩)
          · refine go _ _ _ _ hA (hIw _ _ _ _ hC hc1.1 hc1.2) (keep u) ?_
            rw [← comm]
            exact hh
          · refine go _ _ _ _ hA (hIw _ _ _ _ hC hc1.1 hc1.2) (keepd d) ?_
            rw [← commd]
            exact hh
        | x =>
          rw [hkj] at h1
          refine wp_to hx.symm h1 (fun u w1 hh => ?_) (fun d w1 hh => ?_)
          · refine go _ _ _ _ (hjx hkj) (hIx _ _) (keep u) ?_
            rw [← comm]
            exact hh
          · refine go _ _ _ _ (hjx hkj) (hIx _ _) (keepd d) ?_
            rw [← commd]
            exact hh
      · rename_i hw
        rw [if_neg hw]
        refine go _ _ _ _ hA hC (keep undef) ?_
        rw [← comm]
        exact h1
theorem first_w {i : Nat} {oi : Oper} {D : List Nat} (hrt : ∀ x y z, R x y → R y z → R x z) (hi : ops[i]? = some oi) (hsel : ∀ (j : Nat) (o : Oper) cs b, ops[j]? = some o → o.op ≠ .select cs b) (mi : Bool → Bool) (gi : World → World → World) (hmi : ∀ m, (ks i = .w ∧ mi m = m ∧ gi = fun _ w => w) ∨ (ks i = .v ∧ mi m = m ∧ gi = fun g _ => g) ∨ (ks i = .x ∧ mi m = false ∧ gi = fun g _ => g)) :
    ∀ (fuel : Nat) (listed : Array Bool) (m : Bool) (g : World) (a : Act) (w : World), J C R m g w → Waits md ops listed i D →
      (∀ j oj, ops[j]? = some oj → j ≠ i → j ∉ D → listed.getD j true = false → oi.apart ops oj = true ∧ (ks j = .p ∨ (ks j = .s ∧ ks i ≠ .x) ∨ (ks j = .r ∧ ks i = .v))) →
      i ∈ Region.ready md ops listed → Region.wanted oi (yielded ops a.tmps) = true → oi.wp P a w (fun a' w' => (cm C (mi m) w' ∧ (mi m = true → R w w')) ∧ wpA P md ops C R ks Q fuel (listed.setIfInBounds i true) (mi m) (gi g w') a' w') NoX → wpA P md ops C R ks Q (fuel + 1) listed m g a w := by
  have own : ∀ (K : Bool → World → Act → World → Prop) (m : Bool) (g : World) (a : Act) (w : World), Region.wanted oi (yielded ops a.tmps) = true → oi.wp P a w (fun a' w' => (cm C (mi m) w' ∧ (mi m = true → R w w')) ∧ K (mi m) (gi g w') a' w') NoX → opA P ops C R ks m g i K a w := fun K m g a w hw h => by
    unfold opA
    simp only [hi, hw, if_true]
    rcases hmi m with ⟨hk, hm, hg⟩ | ⟨hk, hm, hg⟩ | ⟨hk, hm, hg⟩
    · rw [hk]
      rw [hm, hg] at h
      exact h
    · rw [hk]
      rw [hm, hg] at h
      exact h
    · rw [hk]
      rw [hm, hg] at h
      exact wp_any_mono h fun _ _ h => h.2
  intro fuel
  induction fuel with
  | zero =>
    intro listed m g a w hC hD _ hr hw H
    refine ⟨fun h => (by rw [h] at hr; cases hr), fun j hj => ?_⟩
    by_cases hji : j = i
    · subst hji; exact own _ _ _ _ _ hw H
    · obtain ⟨a1, w1, _, _, h1⟩ := wp_exists H
      have := ready_mono hj hji
      rw [h1.1] at this
      cases this
  | succ fuel ih =>
    intro listed m g a w hC hD hfree hr hw H
    refine ⟨fun h => (by rw [h] at hr; cases hr), fun j hj => ?_⟩
    by_cases hji : j = i
    · subst hji; exact own _ _ _ _ _ hw H
    · obtain ⟨hjun, oj, hoj, hall⟩ := mem_ready.1 hj
      have hjD := hD.not_ready (mem_ready.1 hr).1 hj
      obtain ⟨hap, hkj⟩ := hfree j oj hoj hji hjD hjun
      obtain ⟨e1, e2, e3⟩ := Oper.apart_spec hap
      have hsi := fun cs b => hsel i oi cs b hi
      have hsj := fun cs b => hsel j oj cs b hoj
      have hfree' : ∀ k ok, ops[k]? = some ok → k ≠ i → k ∉ D → (listed.setIfInBounds j true).getD k true = false → oi.apart ops ok = true ∧ (ks k = .p ∨ (ks k = .s ∧ ks i ≠ .x) ∨ (ks k = .r ∧ ks i = .v)) := fun k ok hk hki hkD hun => by
        refine hfree k ok hk hki hkD ?_
        by_cases hjk : j = k
        · subst hjk; exact hjun
        · rw [getD_set_ne true hjk] at hun; exact hun
      obtain ⟨CC, hCC, hfrom, hto⟩ : ∃ CC : World → Prop, (∀ w', cm C (mi m) w' → (mi m = true → R w w') → CC w' ∨ ks j ≠ .p ∧ mi m = false) ∧
          (∀ (K : Bool → World → Act → World → Prop) a' w' w1, opA P ops C R ks (mi m) (gi g w1) j K a' w' → ∃ u, YC P ops CC oj u a' ∧ (ks j ≠ .p ∧ mi m = false → Region.wanted oj (yielded ops a'.tmps) = false) ∧ K (mi m) (gi g w1) (a'.put oj.dst u) w') ∧
          (∀ (K : Bool → World → Act → World → Prop) a' w' u, YC P ops CC oj u a' → (ks j ≠ .p ∧ mi m = false → Region.wanted oj (yielded ops a'.tmps) = false) → K m g (a'.put oj.dst u) w' → opA P ops C R ks m g j K a' w') := by
        rcases hkj with hkj | ⟨hkj, hki⟩ | ⟨hkj, hki⟩
        · refine ⟨any, fun _ _ _ => .inl trivial, fun K a' w' w1 h => ?_, fun K a' w' u hu _ h => ?_⟩
          · unfold opA at h
            simp only [hoj, hkj] at h
            by_cases hwj : Region.wanted oj (yielded ops a'.tmps) = true
            · rw [if_pos hwj] at h
              obtain ⟨u, hu, hn⟩ := h
              exact ⟨u, .inl ⟨hwj, hu⟩, (fun hc => absurd hkj hc.1), hn⟩
            · rw [if_neg hwj] at h
              exact ⟨undef, .inr ⟨by simpa using hwj, rfl⟩, (fun hc => absurd hkj hc.1), h⟩
          · unfold opA
            simp only [hoj, hkj]
            rcases hu with ⟨hwj, hu⟩ | ⟨hwj, rfl⟩
            · rw [if_pos hwj]
              exact ⟨u, hu, h⟩
            · rw [if_neg (by rw [hwj]; simp)]
              exact h
        · have hmm : mi m = m := by
            rcases hmi m with ⟨_, h, _⟩ | ⟨_, h, _⟩ | ⟨h, _⟩
            · exact h
            · exact h
            · exact absurd h hki
          refine ⟨C, fun w' hc _ => ?_, fun K a' w' w1 h => ?_, fun K a' w' u hu hno h => ?_⟩
          · cases hmb : mi m with
            | true => exact .inl (hc hmb)
            | false => exact .inr ⟨by rw [hkj]; decide, rfl⟩
          · unfold opA at h
            simp only [hoj, hkj] at h
            by_cases hwj : Region.wanted oj (yielded ops a'.tmps) = true
            · rw [if_pos hwj] at h
              obtain ⟨hmt, u, hu, hn⟩ := h
              refine ⟨u, .inl ⟨hwj, hu⟩, (fun hc => ?_), hn⟩
              rw [hmt] at hc
              cases hc.2
            · rw [if_neg hwj] at h
              exact ⟨undef, .inr ⟨by simpa using hwj, rfl⟩, (fun _ => by simpa using hwj), h⟩
          · unfold opA
            simp only [hoj, hkj]
            rcases hu with ⟨hwj, hu⟩ | ⟨hwj, rfl⟩
            · rw [if_pos hwj]
              refine ⟨?_, u, hu, h⟩
              cases hmb : m with
              | true => rfl
              | false =>
                rw [hno ⟨by rw [hkj]; decide, by rw [hmm, hmb]⟩] at hwj
                cases hwj
            · rw [if_neg (by rw [hwj]; simp)]
              exact h
        · have hmm : mi m = m ∧ gi = fun g _ => g := by
            rcases hmi m with ⟨h, _⟩ | ⟨_, h⟩ | ⟨h, _⟩
            · rw [h] at hki; cases hki
            · exact h
            · rw [h] at hki; cases hki
          obtain ⟨hmm, hgg⟩ := hmm
          refine ⟨fun x => C x ∧ R g x, fun w' hc hr => ?_, fun K a' w' w1 h => ?_, fun K a' w' u hu hno h => ?_⟩
          · cases hmb : mi m with
            | true => exact .inl ⟨hc hmb, hrt _ _ _ (hC.2 (by rw [← hmm]; exact hmb)) (hr hmb)⟩
            | false => exact .inr ⟨by rw [hkj]; decide, rfl⟩
          · unfold opA at h
            simp only [hoj, hkj] at h
            by_cases hwj : Region.wanted oj (yielded ops a'.tmps) = true
            · rw [if_pos hwj] at h
              obtain ⟨hmt, u, hu, hn⟩ := h
              rw [hgg] at hu
              refine ⟨u, .inl ⟨hwj, hu⟩, (fun hc => ?_), hn⟩
              rw [hmt] at hc
              cases hc.2
            · rw [if_neg hwj] at h
              exact ⟨undef, .inr ⟨by simpa using hwj, rfl⟩, (fun _ => by simpa using hwj), h⟩
          · unfold opA
            simp only [hoj, hkj]
            rcases hu with ⟨hwj, hu⟩ | ⟨hwj, rfl⟩
            · rw [if_pos hwj]
              refine ⟨?_, u, hu, h⟩
              cases hmb : m with
              | true => rfl
              | false =>
                rw [hno ⟨by rw [hkj]; decide, by rw [hmm, hmb]⟩] at hwj
                cases hwj
            · rw [if_neg (by rw [hwj]; simp)]
              exact h
      obtain ⟨a1, w1, ho1, hc1, h1⟩ := wp_exists H
      obtain ⟨u, hu, hno, _⟩ := hfrom _ _ _ _ (h1.2 j (ready_mono hj hji))
      have hu' : YC P ops CC oj u a := hu.same (out_exec ho1 hsj e1).symm (out_wanted ho1 e1).symm
      have hno' : ks j ≠ .p ∧ mi m = false → Region.wanted oj (yielded ops a.tmps) = false := fun hc => by
        rw [← out_wanted ho1 e1]; exact hno hc
      refine hto _ _ _ u hu' hno' ?_
      refine ih _ _ _ _ w hC (hD.step hjD) hfree' (ready_mono hr (Ne.symm hji)) ?_ ?_
      · rw [wanted_put oi a oj.dst u e3]; exact hw
      · have fin : ∀ a2 w2, Out oi a a2 → (cm C (mi m) w2 ∧ (mi m = true → R w w2)) ∧ wpA P md ops C R ks Q (fuel + 1) (listed.setIfInBounds i true) (mi m) (gi g w2) a2 w2 → (cm C (mi m) w2 ∧ (mi m = true → R w w2)) ∧ wpA P md ops C R ks Q fuel ((listed.setIfInBounds j true).setIfInBounds i true) (mi m) (gi g w2) (a2.put oj.dst u) w2 := fun a2 w2 ho2 ⟨hc2, h2⟩ => by
          refine ⟨hc2, ?_⟩
          obtain ⟨u', hy', hno2, hk'⟩ := hfrom _ _ _ _ (h2.2 j (ready_mono hj hji))
          have hua := hu'.same (out_exec ho2 hsj e1) (out_wanted ho2 e1)
          have : u' = u := by
            rcases hCC w2 hc2.1 hc2.2 with hcc | hcc
            · exact hua.det hcc hcc hy'
            · have hn := hno2 hcc
              rcases hua with ⟨hwj, _⟩ | ⟨_, rfl⟩
              · rw [hn] at hwj; cases hwj
              · rcases hy' with ⟨hwj, _⟩ | ⟨_, rfl⟩
                · rw [hn] at hwj; cases hwj
                · rfl
          subst this
          rw [Array.setIfInBounds_comm _ _ hji]
          exact hk'
        refine wp_to (execOp_put oi hsi a oj.dst u e3) H (fun v w2 h2 => ?_) (fun d w2 h2 => ?_)
        · rw [← Act.put_comm _ v u (fun d hd he => e2 d hd he)]
          exact fin _ _ (.inl ⟨_, rfl⟩) h2
        · rw [Act.put_defers, ← Act.put_comm _ undef u (fun d hd he => e2 d hd he)]
          exact fin _ _ (.inr ⟨_, rfl⟩) h2
def fits (k j : Kind) : Bool :=
  match k, j with
  | .p, _ => true
  | .s, .x => false
  | .s, _ => true
  | .r, .x => false
  | .r, _ => true
  | .w, .p => true
  | .w, .s => true
  | .w, _ => false
  | .v, .p => true
  | .v, .s => true
  | .v, .r => true
  | .v, _ => false
  | .x, .p => true
  | .x, _ => false
def freeK (md : Region.Mode) (ops : Array Oper) (ks : Nat → Kind) (listed : Array Bool) (k : Nat) (D : List Nat) : Bool :=
  match ops[k]? with
  | none => true
  | some o =>
    D.all (fun j => !listed.getD j true && hasEdge md ops k D j) &&
    (List.range ops.size).all fun j => j == k || listed.getD j true || D.contains j ||
      (match ops[j]? with
       | none => true
       | some oj => o.apart ops oj && fits (ks k) (ks j))
def lexFrom (md : Region.Mode) (ops : Array Oper) (ks : Nat → Kind) : Nat → Nat → Array Bool → Bool
  | 0, _, listed => (Region.ready md ops listed).isEmpty
  | fuel + 1, k, listed => (Region.ready md ops listed).contains k && freeK md ops ks listed k (dset md ops k) && lexFrom md ops ks fuel (k + 1) (listed.setIfInBounds k true)
def lexB (md : Region.Mode) (ops : Array Oper) (ks : List Kind) : Bool := Region.noSelect ops && lexFrom md ops (fun i => ks.getD i .p) ops.size 0 (Array.replicate ops.size false)
theorem free_waits {k : Nat} {ok : Oper} {listed : Array Bool} {D : List Nat} (hk : ops[k]? = some ok) (h : freeK md ops ks listed k D = true) : Waits md ops listed k D := by
  intro j hj
  simp only [freeK, hk, Bool.and_eq_true, List.all_eq_true] at h
  have h1 := h.1 j hj
  simp only [Bool.not_eq_true'] at h1
  refine ⟨h1.1, ?_⟩
  have h2 := h1.2
  unfold hasEdge at h2
  split at h2
  · rename_i oj hoj
    obtain ⟨e, he, hb⟩ := Array.any_eq_true'.1 h2
    simp only [Bool.and_eq_true, Bool.or_eq_true, beq_iff_eq, List.contains_iff_mem] at hb
    exact ⟨oj, hoj, e, he, hb.1, hb.2⟩
  · cases h2
theorem free_apart {k : Nat} {ok : Oper} {listed : Array Bool} {D : List Nat} (hk : ops[k]? = some ok) (h : freeK md ops ks listed k D = true) (j : Nat) (oj : Oper) (hj : ops[j]? = some oj) (hne : j ≠ k) (hD : j ∉ D) (hun : listed.getD j true = false) :
    ok.apart ops oj = true ∧ fits (ks k) (ks j) = true := by
  simp only [freeK, hk, Bool.and_eq_true, List.all_eq_true, List.mem_range] at h
  have h1 := h.2 j (Array.getElem?_eq_some_iff.1 hj).1
  simpa only [hj, Bool.or_eq_true, beq_iff_eq, hne, false_or, hun, Bool.false_eq_true, List.contains_iff_mem, hD, Bool.and_eq_true] using h1
theorem wpA_lex {kl : List Kind} (hrr : ∀ w, R w w) (hrt : ∀ x y z, R x y → R y z → R x z) (hs : Region.noSelect ops = true) : ∀ (l : List Oper) (kt : List Kind) (k : Nat) (listed : Array Bool) (m : Bool) (g : World) (a : Act) (w : World), J C R m g w → (∀ j, l[j]? = ops[k + j]?) → (∀ j, kt.getD j .p = kl.getD (k + j) .p) →
    lexFrom md ops (fun i => kl.getD i .p) l.length k listed = true → wpLex P ops C R Q l kt m g a w → wpA P md ops C R (fun i => kl.getD i .p) Q l.length listed m g a w
  | [], _, _, _, _, _, _, _, _, _, _, hB, h => ⟨by simpa [lexFrom] using hB, h⟩
  | o :: l, kt, k, listed, m, g, a, w, hC, hl, hkt, hB, h => by
    have h0 : ops[k]? = some o := by simpa using (hl 0).symm
    have hk0 : kt.headD .p = kl.getD k .p := by
      have := hkt 0
      cases kt with
      | nil => simpa using this
      | cons kd xs => simpa using this
    have hkt' : ∀ j, kt.tail.getD j .p = kl.getD (k + 1 + j) .p := fun j => by
      have := hkt (j + 1)
      cases kt with
      | nil => simpa [Nat.add_assoc, Nat.add_comm 1 j] using this
      | cons kd xs => simpa [Nat.add_assoc, Nat.add_comm 1 j] using this
    have hl' : ∀ j, l[j]? = ops[k + 1 + j]? := fun j => by have := hl (j + 1); simpa [Nat.add_assoc, Nat.add_comm 1 j] using this
    simp only [List.length_cons, lexFrom, Bool.and_eq_true] at hB
    obtain ⟨⟨hr, hf⟩, hB'⟩ := hB
    have hsel := Region.noSelect_spec hs
    have hr' : k ∈ Region.ready md ops listed := by simpa using hr
    have hW := free_waits h0 hf
    have hA := free_apart h0 hf
    have next : ∀ m' g' a' w', J C R m' g' w' → wpLex P ops C R Q l kt.tail m' g' a' w' → wpA P md ops C R (fun i => kl.getD i .p) Q l.length (listed.setIfInBounds k true) m' g' a' w' := fun m' g' a' w' hc hh => wpA_lex hrr hrt hs l kt.tail (k + 1) _ m' g' a' w' hc hl' hkt' hB' hh
    simp only [wpLex] at h
    by_cases hw : Region.wanted o (yielded ops a.tmps) = true
    · rw [if_pos hw, hk0] at h
      have hA' : ∀ j oj, ops[j]? = some oj → j ≠ k → j ∉ dset md ops k → listed.getD j true = false → o.apart ops oj = true ∧ fits (kl.getD k .p) (kl.getD j .p) = true := hA
      cases hkk : kl.getD k .p with
      | p =>
        rw [hkk] at h
        obtain ⟨v, hv, hn⟩ := h
        refine first_s (R := R) (I := J C R) (hIw := fun _ _ _ _ h h1 h2 => ⟨h1, fun _ => hrr _⟩) (hIv := fun _ _ _ _ h h1 h2 => ⟨h1, fun e => hrt _ _ _ (h.2 e) (h2 e)⟩) (hIx := fun _ _ => ⟨(fun e => by cases e), (fun e => by cases e)⟩) (Y := YC P ops any o v) (A := fun _ => True) (v := v) (D := dset md ops k) h0 (fun _ _ hy he hw => hy.same he hw) hsel (fun K m g a w _ hc hy hk => ?_) l.length listed m g a w trivial hC hW (fun j oj hj hne hjD hun => ⟨(hA j oj hj hne hjD hun).1, fun _ => trivial⟩) hr' (.inl ⟨hw, hv⟩) (next _ _ _ _ hC hn)
        unfold opA
        simp only [h0, hkk]
        rcases hy with ⟨hwj, hu⟩ | ⟨hwj, rfl⟩
        · rw [if_pos hwj]
          exact ⟨v, hu, hk⟩
        · rw [if_neg (by rw [hwj]; simp)]
          exact hk
      | s =>
        rw [hkk] at h
        obtain ⟨hmt, v, hv, hn⟩ := h
        refine first_s (R := R) (I := J C R) (hIw := fun _ _ _ _ h h1 h2 => ⟨h1, fun _ => hrr _⟩) (hIv := fun _ _ _ _ h h1 h2 => ⟨h1, fun e => hrt _ _ _ (h.2 e) (h2 e)⟩) (hIx := fun _ _ => ⟨(fun e => by cases e), (fun e => by cases e)⟩) (Y := YC P ops C o v) (A := fun m => m = true) (v := v) (D := dset md ops k) h0 (fun _ _ hy he hw => hy.same he hw) hsel (fun K m g a w hm hc hy hk => ?_) l.length listed m g a w hmt hC hW (fun j oj hj hne hjD hun => ?_) hr' (.inl ⟨hw, hv⟩) (next _ _ _ _ hC hn)
        · unfold opA
          simp only [h0, hkk]
          rcases hy with ⟨hwj, hu⟩ | ⟨hwj, rfl⟩
          · rw [if_pos hwj]
            exact ⟨hm, v, hu, hk⟩
          · rw [if_neg (by rw [hwj]; simp)]
            exact hk
        · have h3 := hA' j oj hj hne hjD hun
          refine ⟨h3.1, fun hx => ?_⟩
          have h4 := h3.2
          rw [hkk, hx] at h4
          cases h4
      | r =>
        rw [hkk] at h
        obtain ⟨hmt, v, hv, hn⟩ := h
        refine first_s (R := R) (I := fun m' g' w' => J C R m' g' w' ∧ (m' = true → R g g')) (hIw := fun _ _ _ _ h h1 h2 => ⟨⟨h1, fun _ => hrr _⟩, fun e => hrt _ _ _ (h.2 e) (hrt _ _ _ (h.1.2 e) (h2 e))⟩) (hIv := fun _ _ _ _ h h1 h2 => ⟨⟨h1, fun e => hrt _ _ _ (h.1.2 e) (h2 e)⟩, h.2⟩) (hIx := fun _ _ => ⟨⟨(fun e => by cases e), (fun e => by cases e)⟩, (fun e => by cases e)⟩) (Y := YC P ops (fun x => C x ∧ R g x) o v) (A := fun m => m = true) (v := v) (D := dset md ops k) h0 (fun _ _ hy he hw => hy.same he hw) hsel (fun K m g' a w' hm hc hy hk => ?_) l.length listed m g a w hmt ⟨hC, fun _ => hrr g⟩ hW (fun j oj hj hne hjD hun => ?_) hr' (.inl ⟨hw, hv⟩) (next _ _ _ _ hC hn)
        · unfold opA
          simp only [h0, hkk]
          rcases hy with ⟨hwj, hu⟩ | ⟨hwj, rfl⟩
          · rw [if_pos hwj]
            exact ⟨hm, v, fun x hx => hu x ⟨hx.1, hrt _ _ _ (hc.2 hm) hx.2⟩, hk⟩
          · rw [if_neg (by rw [hwj]; simp)]
            exact hk
        · have h3 := hA' j oj hj hne hjD hun
          refine ⟨h3.1, fun hx => ?_⟩
          have h4 := h3.2
          rw [hkk, hx] at h4
          cases h4
      | v =>
        rw [hkk] at h
        refine first_w (D := dset md ops k) hrt h0 hsel (fun m => m) (fun g _ => g) (fun m => .inr (.inl ⟨hkk, rfl, rfl⟩)) l.length listed m g a w hC hW (fun j oj hj hne hjD hun => ?_) hr' hw ?_
        · have h3 := hA' j oj hj hne hjD hun
          refine ⟨h3.1, ?_⟩
          have h4 := h3.2
          rw [hkk] at h4
          cases hkj : kl.getD j .p with
          | p => exact .inl rfl
          | s => exact .inr (.inl ⟨rfl, by rw [hkk]; decide⟩)
          | r => exact .inr (.inr ⟨rfl, hkk⟩)
          | v => rw [hkj] at h4; cases h4
          | w => rw [hkj] at h4; cases h4
          | x => rw [hkj] at h4; cases h4
        · exact wp_any_mono h fun a' w' ⟨hc, hh⟩ => ⟨hc, next _ _ _ _ ⟨hc.1, fun e => hrt _ _ _ (hC.2 e) (hc.2 e)⟩ hh⟩
      | w =>
        rw [hkk] at h
        refine first_w (D := dset md ops k) hrt h0 hsel (fun m => m) (fun _ w => w) (fun m => .inl ⟨hkk, rfl, rfl⟩) l.length listed m g a w hC hW (fun j oj hj hne hjD hun => ?_) hr' hw ?_
        · have h3 := hA' j oj hj hne hjD hun
          refine ⟨h3.1, ?_⟩
          have h4 := h3.2
          rw [hkk] at h4
          cases hkj : kl.getD j .p with
          | p => exact .inl rfl
          | s => exact .inr (.inl ⟨rfl, by rw [hkk]; decide⟩)
          | r => rw [hkj] at h4; cases h4
          | v => rw [hkj] at h4; cases h4
          | w => rw [hkj] at h4; cases h4
          | x => rw [hkj] at h4; cases h4
        · exact wp_any_mono h fun a' w' ⟨hc, hh⟩ => ⟨hc, next _ _ _ _ ⟨hc.1, fun _ => hrr _⟩ hh⟩
      | x =>
        rw [hkk] at h
        refine first_w (D := dset md ops k) hrt h0 hsel (fun m => false) (fun g _ => g) (fun m => .inr (.inr ⟨hkk, rfl, rfl⟩)) l.length listed m g a w hC hW (fun j oj hj hne hjD hun => ?_) hr' hw ?_
        · have h3 := hA' j oj hj hne hjD hun
          refine ⟨h3.1, ?_⟩
          have h4 := h3.2
          rw [hkk] at h4
          cases hkj : kl.getD j .p with
          | p => exact .inl rfl
          | s => rw [hkj] at h4; cases h4
          | r => rw [hkj] at h4; cases h4
          | v => rw [hkj] at h4; cases h4
          | w => rw [hkj] at h4; cases h4
          | x => rw [hkj] at h4; cases h4
        · exact wp_any_mono h fun a' w' hh => ⟨⟨(fun e => by cases e), (fun e => by cases e)⟩, next _ _ _ _ ⟨(fun e => by cases e), (fun e => by cases e)⟩ hh⟩
    · rw [if_neg hw] at h
      have hw' : Region.wanted o (yielded ops a.tmps) = false := by simpa using hw
      refine first_s (R := R) (I := J C R) (hIw := fun _ _ _ _ h h1 h2 => ⟨h1, fun _ => hrr _⟩) (hIv := fun _ _ _ _ h h1 h2 => ⟨h1, fun e => hrt _ _ _ (h.2 e) (h2 e)⟩) (hIx := fun _ _ => ⟨(fun e => by cases e), (fun e => by cases e)⟩) (Y := fun a => Region.wanted o (yielded ops a.tmps) = false) (A := fun _ => True) (v := undef) (D := dset md ops k) h0 (fun _ _ hy _ hw => hw.trans hy) hsel (fun K m g a w _ hc hy hk => ?_) l.length listed m g a w trivial hC hW (fun j oj hj hne hjD hun => ⟨(hA j oj hj hne hjD hun).1, fun _ => trivial⟩) hr' hw' (next _ _ _ _ hC h)
      unfold opA
      simp only [h0]
      rw [if_neg (by rw [hy]; simp)]
      exact hk
theorem wp_region_mix {id : Nat} {Q : Exit → Act → World → Prop} {a : Act} {w : World} {l : List Oper} (C : World → Prop) (R : World → World → Prop) (hrr : ∀ w, R w w) (hrt : ∀ x y z, R x y → R y z → R x z) (kl : List Kind) (hm : P.follows .mixedOrders = true) (hB : lexB .any l.toArray kl = true)
    (hC : C w.drew) (h : wpLex P l.toArray C R (fun a' w' => Q .normal a' w') l kl true w.drew a w.drew) : (Code.region id l.toArray true).wp P Q a w := by
  simp only [lexB, Bool.and_eq_true] at hB
  refine wp_region_any hm (wpAny_of_A (C := C) (R := R) (ks := fun i => kl.getD i .p) (Q := fun a' w' => Q .normal a' w') hrr hrt (fun _ _ h => h) _ _ true w.drew _ _ ⟨fun _ => hC, fun _ => hrr _⟩ ?_)
  have := wpA_lex (C := C) (R := R) (md := .any) (kl := kl) hrr hrt hB.1 l kl 0 (Array.replicate l.toArray.size false) true w.drew a w.drew ⟨fun _ => hC, fun _ => hrr _⟩ (by simp) (by simp) (by simpa using hB.2) h
  simpa using this
section
variable {o : Oper} {rest : List Oper} {kt : List Kind} {m : Bool} {g : World} {a : Act} {w : World}
theorem lex_nil (h : Q a w) : wpLex P ops C R Q [] kt m g a w := h
theorem lex_w (h : ∀ K : Act → World → Prop, (∀ a w', C w' → R w w' → wpLex P ops C R Q rest kt true w' a w' → K a w') → wpList P ops (Exit.then K NoX) [o] a w) (hw : Region.wanted o (yielded ops a.tmps) = true) : wpLex P ops C R Q (o :: rest) (.w :: kt) true g a w := by
  have h1 := h (fun a w' => (C w' ∧ R w w') ∧ wpLex P ops C R Q rest kt true w' a w') (fun _ _ h1 h3 h2 => ⟨⟨h1, h3⟩, h2⟩)
  simp only [wpLex, List.headD_cons, List.tail_cons]
  rw [if_pos hw]
  exact wp_any_mono (wp_of_list hw h1) fun _ _ h => ⟨⟨fun _ => h.1.1, fun _ => h.1.2⟩, h.2⟩
theorem lex_v (h : ∀ K : Act → World → Prop, (∀ a w', C w' → R w w' → wpLex P ops C R Q rest kt true g a w' → K a w') → wpList P ops (Exit.then K NoX) [o] a w) : wpLex P ops C R Q (o :: rest) (.v :: kt) true g a w := by
  have h1 := h (fun a w' => (C w' ∧ R w w') ∧ wpLex P ops C R Q rest kt true g a w') (fun _ _ h1 h3 h2 => ⟨⟨h1, h3⟩, h2⟩)
  simp only [wpLex, List.headD_cons, List.tail_cons]
  split
  · rename_i hw
    exact wp_any_mono (wp_of_list hw h1) fun _ _ h => ⟨⟨fun _ => h.1.1, fun _ => h.1.2⟩, h.2⟩
  · rename_i hw
    simp only [wpList, if_neg hw, Exit.then] at h1
    exact h1.2
theorem lex_x (h : ∀ K : Act → World → Prop, (∀ m a w, wpLex P ops C R Q rest kt m g a w → K a w) → wpList P ops (Exit.then K NoX) [o] a w)
    (hmode : ∀ m m' a w, wpLex P ops C R Q rest kt m g a w → wpLex P ops C R Q rest kt m' g a w) : wpLex P ops C R Q (o :: rest) (.x :: kt) m g a w := by
  have h1 := h (fun a w => wpLex P ops C R Q rest kt false g a w) (fun m' a w h => hmode _ _ _ _ h)
  simp only [wpLex, List.headD_cons, List.tail_cons]
  split
  · rename_i hw
    exact wp_of_list hw h1
  · rename_i hw
    simp only [wpList, if_neg hw, Exit.then] at h1
    exact hmode _ _ _ _ h1
end
theorem lex_mode : ∀ (l : List Oper) (kt : List Kind), (kt.all fun k => k == .p || k == .x) = true → ∀ m m' g a w, wpLex P ops C R Q l kt m g a w → wpLex P ops C R Q l kt m' g a w
  | [], _, _, _, _, _, _, _, h => h
  | o :: l, kt, hk, m, m', g, a, w, h => by
    have hk' : (kt.tail.all fun k => k == .p || k == .x) = true := by
      cases kt with
      | nil => rfl
      | cons kd xs => simp only [List.all_cons, Bool.and_eq_true] at hk; exact hk.2
    have ih := lex_mode l kt.tail hk'
    simp only [wpLex] at h ⊢
    split at h
    · rename_i hw
      rw [if_pos hw]
      have h0 : kt.headD .p = .p ∨ kt.headD .p = .x := by
        cases kt with
        | nil => exact .inl rfl
        | cons kd xs =>
          simp only [List.all_cons, Bool.and_eq_true, Bool.or_eq_true, beq_iff_eq] at hk
          exact hk.1
      rcases h0 with h0 | h0
      · rw [h0] at h ⊢
        obtain ⟨v, hv, hn⟩ := h
        exact ⟨v, hv, ih _ _ _ _ _ hn⟩
      · rw [h0] at h ⊢
        exact h
    · rename_i hw
      rw [if_neg hw]
      exact ih _ _ _ _ _ h
theorem lex_q (n : Nat) : ∀ (l : List Oper) (kt : List Kind) (g : World) (a : Act) (w : World), ((kt.take n).length == n && (kt.take n).all (· == .s) && (l.take n).all (fun o => plainOp o.op)) = true →
    wpQuiet P ops C (fun a' => wpLex P ops C R Q (l.drop n) (kt.drop n) true g a' w) (l.take n) a → wpLex P ops C R Q l kt true g a w := by
  induction n with
  | zero => exact fun l kt g a w _ h => h
  | succ n ih =>
    intro l kt g a w hb h
    cases kt with
    | nil => simp at hb
    | cons kd kt =>
      simp only [List.take_succ_cons, List.length_cons, List.all_cons, Bool.and_eq_true, beq_iff_eq] at hb
      obtain ⟨⟨hl, hk, hks⟩, hp⟩ := hb
      cases l with
      | nil => exact h
      | cons o l =>
        simp only [List.take_succ_cons, List.all_cons, Bool.and_eq_true] at hp
        simp only [List.take_succ_cons, List.drop_succ_cons, wpQuiet] at h
        have ih' := fun a w => ih l kt g a w (by simp only [Bool.and_eq_true, beq_iff_eq]; exact ⟨⟨by omega, hks⟩, hp.2⟩)
        subst hk
        simp only [wpLex, List.headD_cons, List.tail_cons]
        split
        · rename_i hw
          rw [if_pos hw] at h
          refine ⟨rfl, still_of_quiet hp.1 ?_⟩
          obtain ⟨v, hv, hk⟩ := h
          exact ⟨v, hv, ih' _ _ hk⟩
        · rename_i hw
          rw [if_neg hw] at h
          exact ih' _ _ h
theorem lex_r (n : Nat) : ∀ (l : List Oper) (kt : List Kind) (g : World) (a : Act) (w : World), ((kt.take n).length == n && (kt.take n).all (· == .r) && (l.take n).all (fun o => plainOp o.op)) = true →
    wpQuiet P ops (fun x => C x ∧ R g x) (fun a' => wpLex P ops C R Q (l.drop n) (kt.drop n) true g a' w) (l.take n) a → wpLex P ops C R Q l kt true g a w := by
  induction n with
  | zero => exact fun l kt g a w _ h => h
  | succ n ih =>
    intro l kt g a w hb h
    cases kt with
    | nil => simp at hb
    | cons kd kt =>
      simp only [List.take_succ_cons, List.length_cons, List.all_cons, Bool.and_eq_true, beq_iff_eq] at hb
      obtain ⟨⟨hl, hk, hks⟩, hp⟩ := hb
      cases l with
      | nil => exact h
      | cons o l =>
        simp only [List.take_succ_cons, List.all_cons, Bool.and_eq_true] at hp
        simp only [List.take_succ_cons, List.drop_succ_cons, wpQuiet] at h
        have ih' := fun a w => ih l kt g a w (by simp only [Bool.and_eq_true, beq_iff_eq]; exact ⟨⟨by omega, hks⟩, hp.2⟩)
        subst hk
        simp only [wpLex, List.headD_cons, List.tail_cons]
        split
        · rename_i hw
          rw [if_pos hw] at h
          refine ⟨rfl, still_of_quiet hp.1 ?_⟩
          obtain ⟨v, hv, hk⟩ := h
          exact ⟨v, hv, ih' _ _ hk⟩
        · rename_i hw
          rw [if_neg hw] at h
          exact ih' _ _ h
theorem lex_qp (n : Nat) : ∀ (l : List Oper) (kt : List Kind) (m : Bool) (g : World) (a : Act) (w : World), ((kt.take n).length == n && (kt.take n).all (· == .p) && (l.take n).all (fun o => plainOp o.op)) = true →
    wpQuiet P ops (fun _ => True) (fun a' => wpLex P ops C R Q (l.drop n) (kt.drop n) m g a' w) (l.take n) a → wpLex P ops C R Q l kt m g a w := by
  induction n with
  | zero => exact fun l kt m g a w _ h => h
  | succ n ih =>
    intro l kt m g a w hb h
    cases kt with
    | nil => simp at hb
    | cons kd kt =>
      simp only [List.take_succ_cons, List.length_cons, List.all_cons, Bool.and_eq_true, beq_iff_eq] at hb
      obtain ⟨⟨hl, hk, hks⟩, hp⟩ := hb
      cases l with
      | nil => exact h
      | cons o l =>
        simp only [List.take_succ_cons, List.all_cons, Bool.and_eq_true] at hp
        simp only [List.take_succ_cons, List.drop_succ_cons, wpQuiet] at h
        have ih' := fun a w => ih l kt m g a w (by simp only [Bool.and_eq_true, beq_iff_eq]; exact ⟨⟨by omega, hks⟩, hp.2⟩)
        subst hk
        simp only [wpLex, List.headD_cons, List.tail_cons]
        split
        · rename_i hw
          rw [if_pos hw] at h
          obtain ⟨v, hv, hk⟩ := h
          exact still_of_quiet (C := any) (K := fun a' => wpLex P ops C R Q l kt m g a' w) hp.1 ⟨v, hv, ih' _ _ hk⟩
        · rename_i hw
          rw [if_neg hw] at h
          exact ih' _ _ h
theorem region {id : Nat} {Q : Exit → Act → World → Prop} {a : Act} {w : World} {l : List Oper} (C0 : World → Prop) (R : World → World → Prop) (hrr : ∀ w, R w w) (hrt : ∀ x y z, R x y → R y z → R x z) (kl : List Kind) (hm : P.follows .mixedOrders = true) (hB : lexB .any l.toArray kl = true)
    (hC : C0 w.drew) (h : Nonempty (In C0) → wpLex P l.toArray (fun w' => ∃ m : In C0, w' = m.w) R (fun a' w' => Q .normal a' w') l kl true w.drew a w.drew) : (Code.region id l.toArray true).wp P Q a w :=
  wp_region_mix _ R hrr hrt kl hm hB (cls_mk hC) (h ⟨⟨_, hC⟩⟩)
theorem step_w {C0 : World → Prop} {o : Oper} {rest : List Oper} {kt : List Kind} {g : World} {a : Act} {w : World} (hw : Region.wanted o (yielded ops a.tmps) = true) (h : ∀ K : Act → World → Prop, On (∀ a w', C0 w' → R w w' → wpLex P ops (fun w' => ∃ m : In C0, w' = m.w) R Q rest kt true w' a w' → K a w') → wpList P ops (Exit.then K NoX) [o] a w) : wpLex P ops (fun w' => ∃ m : In C0, w' = m.w) R Q (o :: rest) (.w :: kt) true g a w :=
  lex_w (fun K hK => h K ⟨fun a w hc hr hh => hK a w (cls_mk hc) hr hh⟩) hw
theorem step_v {C0 : World → Prop} {o : Oper} {rest : List Oper} {kt : List Kind} {g : World} {a : Act} {w : World} (h : ∀ K : Act → World → Prop, On (∀ a w', C0 w' → R w w' → wpLex P ops (fun w' => ∃ m : In C0, w' = m.w) R Q rest kt true g a w' → K a w') → wpList P ops (Exit.then K NoX) [o] a w) : wpLex P ops (fun w' => ∃ m : In C0, w' = m.w) R Q (o :: rest) (.v :: kt) true g a w :=
  lex_v fun K hK => h K ⟨fun a w hc hr hh => hK a w (cls_mk hc) hr hh⟩
theorem step_x {o : Oper} {rest : List Oper} {kt : List Kind} {m : Bool} {g : World} {a : Act} {w : World} (hk : (kt.all fun k => k == .p || k == .x) = true) (h : ∀ K : Act → World → Prop, On (∀ a w, wpLex P ops C R Q rest kt true g a w → K a w) → wpList P ops (Exit.then K NoX) [o] a w) : wpLex P ops C R Q (o :: rest) (.x :: kt) m g a w :=
  lex_x (fun K hK => h K ⟨fun a w hh => hK true a w hh⟩) (fun m m' a w h => lex_mode rest kt hk m m' g a w h)
theorem lex_rm (n : Nat) {C0 : World → Prop} (l : List Oper) (kt : List Kind) (g : World) (a : Act) (w : World) (hb : ((kt.take n).length == n && (kt.take n).all (· == .r) && (l.take n).all (fun o => plainOp o.op)) = true)
    (h : wpQuiet P ops (fun x => ∃ m : In (fun y => C0 y ∧ R g y), x = m.w) (fun a' => wpLex P ops (fun w' => ∃ m : In C0, w' = m.w) R Q (l.drop n) (kt.drop n) true g a' w) (l.take n) a) : wpLex P ops (fun w' => ∃ m : In C0, w' = m.w) R Q l kt true g a w :=
  lex_r n l kt g a w hb (by
    have e : (fun x => (∃ m : In C0, x = m.w) ∧ R g x) = (fun x => ∃ m : In (fun y => C0 y ∧ R g y), x = m.w) := by
      funext x
      exact propext ⟨fun ⟨⟨m, hm⟩, hr⟩ => ⟨⟨x, hm ▸ m.h, hr⟩, rfl⟩, fun ⟨m, hm⟩ => ⟨⟨⟨x, hm ▸ m.h.1⟩, rfl⟩, hm ▸ m.h.2⟩⟩
    rw [e]
    exact h)
end Go.Rg
end
section
namespace Go.Proofs.Ytopfjmeejpamjaa
set_option linter.unusedVariables false
set_option linter.unusedSimpArgs false
open Go.RowKit Go.Proofs.YtopfjmeejpamjaaW.PrintWords Go.Proofs.YtopfjmeejpamjaaW.PrintLast Go.Proofs.YtopfjmeejpamjaaW.PrintMore
namespace Cell
open Go.Num Go.Crc PCellGets
theorem mid_C {w : World} {a : Addr} {l : List Int} (h : Kd.C (Kd.int .u8) w (some a) l.length l) (i m : Nat) (hi : i + m ≤ l.length) : Kd.C (Kd.int .u8) w (some (a.add i)) m ((l.drop i).take m) := by
  have hle : l.length ≤ 9223372036854775807 := h.2.1
  refine Kd.C_of_reads (enc := fun x => Value.int .u8 x) (d := (0:Int)) (h1 := fun _ => rfl) ⟨by rw [List.length_take, List.length_drop]; omega, by omega, fun _ => ⟨_, rfl, fun j hj => ?_⟩⟩
  obtain ⟨ad, e, hcell⟩ := Kd.at_int h ((i + j : Nat) : Int) (by omega) (by omega)
  cases e
  rw [Int.toNat_natCast] at hcell
  rw [Go.Deep.add_add, hcell]
  unfold rd
  rw [Int.toNat_natCast, List.getD_eq_getElem?_getD, List.getD_eq_getElem?_getD, List.getElem?_take_of_lt (by omega), List.getElem?_drop]
theorem take_C {w : World} {A : Option Addr} {l : List Int} (h : Kd.C (Kd.int .u8) w A l.length l) (m : Nat) (hm : m ≤ l.length) : Kd.C (Kd.int .u8) w A m (l.take m) := by
  obtain ⟨h0, h1, h2⟩ := h
  refine ⟨by rw [List.length_take]; omega, by omega, fun hp => ?_⟩
  obtain ⟨ad, ha, hc⟩ := h2 (by omega)
  refine ⟨ad, ha, fun j p hj => hc j p ?_⟩
  rw [List.getElem?_take] at hj
  split at hj
  · exact hj
  · cases hj
theorem drop_C {w : World} {a : Addr} {l : List Int} (h : Kd.C (Kd.int .u8) w (some a) l.length l) (i : Nat) (hi : i ≤ l.length) : Kd.C (Kd.int .u8) w (some (a.add i)) (l.length - i) (l.drop i) := by
  have := mid_C h i (l.length - i) (by omega)
  rw [List.take_of_length_le (by rw [List.length_drop]; omega)] at this
  exact this
theorem low_bits (s : Int) (h0 : 0 ≤ s) (h1 : s < 4294967296) : Go.bits .and .u32 s 65535 = s % 65536 := by
  obtain ⟨n, rfl⟩ := Int.eq_ofNat_of_zero_le h0
  rw [bits_and32, BitVec.toNat_and, b32_nat n (by omega)]
  show ((n &&& 65535 : Nat) : Int) = _
  rw [show (65535 : Nat) = 2 ^ 16 - 1 from rfl, Nat.and_two_pow_sub_one_eq_mod]
  omega
theorem leB_halves (s : Int) (h0 : 0 ≤ s) : leB (s % 65536) 2 ++ leB (s / 65536) 2 = leB s 4 := by
  rw [leB2_eq, leB2_eq, leB4_eq]
  simp only [List.cons_append, List.nil_append, List.cons.injEq, and_true]
  exact ⟨by omega, by omega, trivial, by omega⟩
theorem fix_small2 (n : Int) (h0 : 0 ≤ n) (h1 : n < 65536) : fixP n 2 = (leB n 2, 0) := by
  unfold fixP
  rw [if_neg (by rw [show (256 : Int) ^ ((2 : Int)).toNat = 65536 from by decide]; omega)]
  rfl
set_option maxHeartbeats 8000000 in
set_option maxRecDepth 100000 in
theorem tail_any (s : Int) (w : World) (h0 : 0 ≤ s) (h1 : s < 4294967296) :
    Calls Try.prog 89 #[.int .u32 s] w fun e w' => ∃ v, e = .returned v ∧ Kd.R (Kd.int .u8) 5 w' w.heap.size (fun _ => True) v (leB s 4) ∧ Below w.heap.size w w' := by
  have HLO := Aside0.mk (low_bits s h0 h1)
  have HH := Aside0.mk (leB_halves s h0)
  go_enter Try.func89, Try.ntmps89
  go_wp2_with fail
  rw [HLO.out, wid (s % 65536) (by omega) (by omega)]
  have hf1 := fix2_any (s % 65536) w (by omega)
  rw [fix_small2 (s % 65536) (by omega) (by omega)] at hf1
  refine hf1.mono ?_
  clear hf1
  rintro e w1 ⟨v1, rfl, hr1, b1⟩
  obtain ⟨A1, c1, rfl⟩ := Kd.R_slice hr1
  have HR1 := Aside0.mk hr1
  have HB1 := Aside0.mk b1
  rw [leB_len] at hr1 ⊢
  clear hr1 b1
  go_wp2_with fail
  try rw [wid (s / 65536) (by omega) (by omega)]
  have hf2 := fix2_any (s / 65536) w1 (by omega)
  rw [fix_small2 (s / 65536) (by omega) (by omega)] at hf2
  refine hf2.mono ?_
  clear hf2
  rintro e w2 ⟨v2, rfl, hr2, b2⟩
  obtain ⟨A2, c2, rfl⟩ := Kd.R_slice hr2
  have HC1 := Aside0.mk (Kd.C_below (row_at HR1.out) b2)
  have HC2 := Aside0.mk (row_at hr2)
  have HB2 := Aside0.mk (HB1.out.trans (b2.mono HB1.out.size))
  rw [leB_len]
  clear hr2 b2 HR1 HB1
  go_wp2_with fail
  obtain ⟨w3, hw3⟩ : ∃ w3, w3 = w2.alloc (.cells #[.slice A1 2 c1, .slice A2 2 c2] 26) := ⟨_, rfl⟩
  have hb3 : Below w2.heap.size w2 w3 := by rw [hw3]; exact (Below.refl _ _).alloc (Nat.le_refl _) _
  have hc3 : w3.heap[w2.heap.size]? = some (.cells #[.slice A1 2 c1, .slice A2 2 c2] 26 (0, 0)) := by rw [hw3]; exact heap_alloc_new w2 _
  rw [← hw3]
  have hcc := concat_any (w := w3) w2.heap.size A1 A2 c1 c2 (leB (s % 65536) 2) (leB (s / 65536) 2) (blk_lt hc3) (by rw [leB_len]; exact cell_blk hc3) (by rw [leB_len]; exact cell_blk hc3) (Kd.C_below HC1.out hb3) (Kd.C_below HC2.out hb3) (by rw [leB_len]; omega) (by rw [leB_len, leB_len]; omega)
  rw [HH.out] at hcc
  have HB3 := Aside0.mk (HB2.out.trans (hb3.mono HB2.out.size))
  clear hw3 hb3 hc3 HC1 HC2 HB2
  refine hcc.mono ?_
  clear hcc
  rintro e w4 ⟨v4, rfl, hr4, b4⟩
  have HR4 := Aside0.mk (Kd.R_lower hr4 HB3.out.size)
  have HB4 := Aside0.mk (HB3.out.trans (b4.mono HB3.out.size))
  clear hr4 b4
  go_wp2_with fail
  go_ret
  exact ⟨_, rfl, HR4.out, HB4.out⟩
set_option maxHeartbeats 8000000 in
set_option maxRecDepth 100000 in
theorem seal_any (A : Option Addr) (c : Nat) (l : List Int) (w : World) (hC : Kd.C (Kd.int .u8) w A l.length l) (hb : ∀ x ∈ l, 0 ≤ x ∧ x ≤ 255) (hl : l.length ≤ 900000) :
    Calls Try.prog 69 #[.slice A l.length c] w fun e w' => ∃ v, e = .returned v ∧ Kd.R (Kd.int .u8) 5 w' w.heap.size (fun _ => True) v (sealB l) ∧ Below w.heap.size w w' := by
  have HC := Aside0.mk hC
  have HBY := Aside0.mk hb
  have hr := sum_range l
  clear hC hb
  go_enter Try.func69, Try.ntmps69
  go_wp2_with fail
  refine (sum_any A c l w HC.out HBY.out (by omega)).mono ?_
  rintro e w1 ⟨rfl, rfl⟩
  go_wp2_with fail
  refine (tail_any (Crc.sum l) w1 hr.1 hr.2).mono ?_
  rintro e w2 ⟨v2, rfl, hr2, b2⟩
  obtain ⟨A2, c2, rfl⟩ := Kd.R_slice hr2
  have HC1 := Aside0.mk (Kd.C_below HC.out b2)
  have HC2 := Aside0.mk (row_at hr2)
  have HB2 := Aside0.mk b2
  rw [leB_len]
  clear hr2 b2 hr
  go_wp2_with fail
  obtain ⟨w3, hw3⟩ : ∃ w3, w3 = w2.alloc (.cells #[.slice A l.length c, .slice A2 4 c2] 26) := ⟨_, rfl⟩
  have hb3 : Below w2.heap.size w2 w3 := by rw [hw3]; exact (Below.refl _ _).alloc (Nat.le_refl _) _
  have hc3 : w3.heap[w2.heap.size]? = some (.cells #[.slice A l.length c, .slice A2 4 c2] 26 (0, 0)) := by rw [hw3]; exact heap_alloc_new w2 _
  rw [← hw3]
  have hcc := concat_any (w := w3) w2.heap.size A A2 c c2 l (leB (Crc.sum l) 4) (blk_lt hc3) (cell_blk hc3) (by rw [leB_len]; exact cell_blk hc3) (Kd.C_below HC1.out hb3) (Kd.C_below HC2.out hb3) (by rw [leB_len]; omega) (by rw [leB_len]; omega)
  have HB3 := Aside0.mk (HB2.out.trans (hb3.mono HB2.out.size))
  clear hw3 hb3 hc3 HC1 HC2 HB2
  refine hcc.mono ?_
  clear hcc
  rintro e w4 ⟨v4, rfl, hr4, b4⟩
  have HR4 := Aside0.mk (show Kd.R (Kd.int .u8) 5 w4 w1.heap.size (fun _ => True) v4 (sealB l) from Kd.R_lower hr4 HB3.out.size)
  have HB4 := Aside0.mk (HB3.out.trans (b4.mono HB3.out.size))
  clear hr4 b4
  go_wp2_with fail
  go_ret
  exact ⟨_, rfl, HR4.out, HB4.out⟩
def openP (l : List Int) : List Int × Int := if l.length < 4 ∨ l.drop (l.length - 4) ≠ leB (Crc.sum (l.take (l.length - 4))) 4 then ([], 12) else (l.take (l.length - 4), 0)
theorem eqN (a : Addr) (n c : Nat) (W : World) : (binOp BinOp.eql 26 (.slice (some a) n c) (.slice none 0 0)).run Try.prog W = .ok (.bool false) W := by
  kernel_rfl
set_option maxHeartbeats 8000000 in
set_option maxRecDepth 100000 in
theorem clone8 {w : World} (a : Addr) (c : Nat) (xs : List Int) (hC : Kd.C (Kd.int .u8) w (some a) xs.length xs) (hl : xs.length ≤ 262144) :
    Calls Try.prog 51 #[.slice (some a) xs.length c] w fun e w' => ∃ v, e = .returned v ∧ Kd.R (Kd.int .u8) 5 w' w.heap.size (fun _ => True) v xs ∧ Below w.heap.size w w' ∧ v ≠ .slice none 0 0 := by
  have HC := Aside0.mk hC
  clear hC
  have heq := eqN a xs.length c
  go_enter Try.func51, Try.ntmps51
  go_wp2_with ((with_reducible refine gate_builtin (b := .append) (xs := #[.tmp 5, .tmp 6]) rfl ?_); at_builtin; refine Hid.out ?_)
  refine Lib.hid ?_
  have HAL := Aside0.mk ((Below.refl w.heap.size w).alloc (Nat.le_refl _) (.cells #[] 5))
  refine Kd.R_append_rows (Kd.int .u8) (Rr := (Kd.int .u8).K (w.alloc (.cells #[] 5))) (w0 := w) w.heap.size rfl (.tmp 5) (.tmp 6) 26 5 (.int .u8 0) 1 rfl Try.underlying26 infoU8 rfl (by decide) (by omega) (.slice (some ⟨w.heap.size, 0, none⟩) 0 0) [] xs (some a) xs.length c (fun _ => True) (fun _ => False) rfl rfl ?aO ?aR (fun x cs h => h) (fun _ hk => hk.elim) (fun _ _ => trivial) HAL.out ?aS ?aL ?_
  case aO => exact ⟨fun _ _ => trivial, OwnRow.lit w w.heap.size (Reps.none _ _) (Nat.le_refl _) (by simp)⟩
  case aR => exact Kd.C_below HC.out HAL.out
  case aS => simp
  case aL => simp; omega
  intro v1 w1 ho hb hg hat
  have HO := Aside0.mk ho
  have HB := Aside0.mk hb
  have HAT := Aside0.mk hat
  clear ho hb hg hat
  go_wp2_with fail
  go_ret
  refine ⟨v1, rfl, by simpa using HO.out, HB.out, fun e => ?_⟩
  rcases HAT.out with h | ⟨b, h, _⟩
  · rw [e] at h; simp [Value.ownBlock] at h
  · rw [e] at h; simp [Value.ownBlock] at h
set_option maxHeartbeats 8000000 in
set_option maxRecDepth 100000 in
theorem open_any (A : Option Addr) (c : Nat) (l : List Int) (w : World) (hC : Kd.C (Kd.int .u8) w A l.length l) (hb : ∀ x ∈ l, 0 ≤ x ∧ x ≤ 255) (hl : l.length ≤ 200000) (hc : l.length ≤ c) :
    Calls Try.prog 72 #[.slice A l.length c] w fun e w' => ∃ v, e = .returned (.tuple #[v, .int .i64 (openP l).2]) ∧ Kd.R (Kd.int .u8) 5 w' w.heap.size (fun _ => True) v (openP l).1 ∧ Below w.heap.size w w' := by
  have HC := Aside0.mk hC
  have HBY := Aside0.mk hb
  clear hC hb
  by_cases h4 : l.length < 4
  · have ho : openP l = ([], 12) := by unfold openP; rw [if_pos (.inl h4)]
    rw [ho]
    clear ho
    have hneg : (l.length : Int) - 4 < 0 := by omega
    go_enter Try.func72, Try.ntmps72
    go_wp2_with fail
    refine Go.Rg.region (Below w.heap.size w) (fun x y => Below x.heap.size x y) (fun x => Below.refl _ x) (fun x y z h k => h.trans (k.mono h.size)) [.s, .s, .s, .s, .s, .s, .s, .s, .s, .v, .v, .v, .s, .s] (by kernel_rfl) (by kernel_rfl) (below_drew1 (Below.refl _ _)) (fun ne => ?_)
    refine Go.Rg.lex_q 9 _ _ _ _ _ (by rfl) ?_; simp only [List.take_succ_cons, List.take_zero, List.drop_succ_cons, List.drop_zero]; (repeat (go_big_quiet_step (rfl))); refine wpQuiet_nil ?_
    refine Go.Rg.step_v (fun K' hK => ?_)
    go_wp2_with fail
    refine hK.out _ _ (below_drew1 (Below.refl _ _)) (Below.refl _ _) ?_
    clear hK K'
    try simp only [Act.put, List.setIfInBounds_toArray, List.set_cons_succ, List.set_cons_zero]
    refine Go.Rg.step_v (fun K' hK => ?_)
    go_wp2_with fail
    refine hK.out _ _ (below_drew1 (Below.refl _ _)) (Below.refl _ _) ?_
    clear hK K'
    try simp only [Act.put, List.setIfInBounds_toArray, List.set_cons_succ, List.set_cons_zero]
    refine Go.Rg.step_v (fun K' hK => ?_)
    go_wp2_with fail
    refine hK.out _ _ (below_drew1 (Below.refl _ _)) (Below.refl _ _) ?_
    clear hK K'
    try simp only [Act.put, List.setIfInBounds_toArray, List.set_cons_succ, List.set_cons_zero]
    refine Go.Rg.lex_q 2 _ _ _ _ _ (by rfl) ?_; simp only [List.take_succ_cons, List.take_zero, List.drop_succ_cons, List.drop_zero]; (repeat (go_big_quiet_step (rfl))); refine wpQuiet_nil ?_
    refine Go.Rg.lex_nil ?_
    go_wp2_with fail
    go_ret2
    exact ⟨_, rfl, Kd.R_nil _ _ _ _ _, below_drew1 (Below.refl _ _)⟩
  · obtain ⟨a, rfl⟩ : ∃ a, A = some a := by obtain ⟨a, ha, _⟩ := HC.out.2.2 (by omega); exact ⟨a, ha⟩
    obtain ⟨n, hn⟩ : ∃ n : Nat, l.length = n + 4 := ⟨l.length - 4, by omega⟩
    have ho : openP l = if l.drop n ≠ leB (Crc.sum (l.take n)) 4 then ([], 12) else (l.take n, 0) := by
      unfold openP
      rw [show l.length - 4 = n by omega]
      by_cases hd : l.drop n ≠ leB (Crc.sum (l.take n)) 4
      · rw [if_pos (.inr hd), if_pos hd]
      · rw [if_neg (by intro h; rcases h with h | h; omega; exact hd h), if_neg hd]
    obtain ⟨R, hR⟩ : ∃ R, R = openP l := ⟨_, rfl⟩
    rw [← hR]
    have HRR := Aside0.mk (hR.trans ho)
    clear hR
    have HCD := Aside0.mk (show ∀ x, Below w.heap.size w x → Kd.C (Kd.int .u8) x (some (a.add n)) 4 (l.drop n) from fun x hx => by
      have := drop_C (Kd.C_below HC.out hx) n (by omega)
      rw [show l.length - n = 4 by omega] at this
      exact this)
    have HCT := Aside0.mk (show ∀ x, Below w.heap.size w x → Kd.C (Kd.int .u8) x (some a) n (l.take n) from fun x hx => take_C (Kd.C_below HC.out hx) n (by omega))
    have HTB := Aside0.mk (show ∀ x ∈ l.take n, 0 ≤ x ∧ x ≤ 255 from fun x hx => HBY.out x (List.mem_of_mem_take hx))
    have HDL := Aside0.mk (show (l.drop n).length = 4 by rw [List.length_drop]; omega)
    have HTL := Aside0.mk (show (l.take n).length = n by rw [List.length_take]; omega)
    rw [hn] at hl hc ⊢
    clear ho h4 hn
    obtain ⟨b, hbb⟩ : ∃ b : Bool, b = decide (l.drop n = leB (Crc.sum (l.take n)) 4) := ⟨_, rfl⟩
    have HBB := Aside0.mk hbb
    clear hbb
    have q1 : ((n + 4 : Nat) : Int) - 4 = n := by omega
    have q2 : decide ((n : Int) < 0) = false := decide_eq_false (by omega)
    have q3 : (n : Int) ≤ (n : Int) + 4 := by omega
    have q4 : (n : Int) + 4 ≤ c := by omega
    have q5 : (n : Int) ≤ c := by omega
    go_enter Try.func72, Try.ntmps72
    go_wp2_with fail
    refine Go.Rg.region (Below w.heap.size w) (fun x y => Below x.heap.size x y) (fun x => Below.refl _ x) (fun x y z h k => h.trans (k.mono h.size)) [.s, .s, .s, .s, .s, .s, .s, .s, .s, .w, .w, .w, .s, .s] (by kernel_rfl) (by kernel_rfl) (below_drew1 (Below.refl _ _)) (fun ne => ?_)
    refine Go.Rg.lex_q 9 _ _ _ _ _ (by rfl) ?_; simp only [List.take_succ_cons, List.take_zero, List.drop_succ_cons, List.drop_zero]; (repeat (go_big_quiet_step (rfl))); refine wpQuiet_nil ?_
    refine Go.Rg.step_w (by rfl) (fun K' hK => ?_)
    go_wp2_with fail
    have HB1 := Aside0.mk (below_drew1 (Below.refl w.heap.size w))
    have hs := sum_any (some a) c (l.take n) _ (by rw [HTL.out]; exact HCT.out _ HB1.out) HTB.out (by rw [HTL.out]; omega)
    rw [HTL.out] at hs
    refine hs.mono ?_
    clear hs
    rintro e w1 ⟨rfl, hw1⟩
    rw [← hw1] at HB1
    have HW1 := Aside0.mk hw1
    clear hw1
    go_wp2_with fail
    refine hK.out _ _ HB1.out (by rw [HW1.out]; exact Below.refl _ _) ?_
    clear hK K'
    try simp only [Act.put, List.setIfInBounds_toArray, List.set_cons_succ, List.set_cons_zero]
    refine Go.Rg.step_w (by rfl) (fun K' hK => ?_)
    go_wp2_with fail
    refine (tail_any (Crc.sum (l.take n)) w1 (sum_range _).1 (sum_range _).2).mono ?_
    rintro e w2 ⟨v2, rfl, hr2, b2⟩
    obtain ⟨A2, c2, rfl⟩ := Kd.R_slice hr2
    have HR2 := Aside0.mk hr2
    have HB2 := Aside0.mk (HB1.out.trans (b2.mono HB1.out.size))
    have HS2 := Aside0.mk b2
    have hc2 := (Kd.R_reads' hr2).2.1
    clear hr2 b2
    rw [leB_len] at hc2 ⊢
    go_wp2_with fail
    refine hK.out _ _ HB2.out HS2.out ?_
    clear hK K'
    try simp only [Act.put, List.setIfInBounds_toArray, List.set_cons_succ, List.set_cons_zero]
    refine Go.Rg.step_w (by rfl) (fun K' hK => ?_)
    go_wp2_with fail
    have heq := slices_Equal_byte_byte.calls (4 + (l.drop n).length + 1) (some (a.add n)) (c - n) (l.drop n) A2 c2 (leB (Crc.sum (l.take n)) 4) b w2 (by rw [HDL.out]; exact HCD.out _ HB2.out) (by rw [HDL.out]; omega) (row_at HR2.out) (by rw [leB_len]; exact hc2) (by rw [equal_plain _ _ 4 (by rw [HDL.out]; omega), HBB.out])
    rw [HDL.out, leB_len] at heq
    refine heq.mono ?_
    clear heq
    rintro e w3 ⟨rfl, hd3⟩
    have HB3 := Aside0.mk (HB2.out.trans (hd3.below.mono HB2.out.size))
    have HS3 := Aside0.mk hd3.below
    clear hd3
    go_wp2_with fail
    refine hK.out _ _ HB3.out HS3.out ?_
    clear hK K'
    try simp only [Act.put, List.setIfInBounds_toArray, List.set_cons_succ, List.set_cons_zero]
    refine Go.Rg.lex_q 2 _ _ _ _ _ (by rfl) ?_; simp only [List.take_succ_cons, List.take_zero, List.drop_succ_cons, List.drop_zero]; (repeat (go_big_quiet_step (rfl))); refine wpQuiet_nil ?_
    refine Go.Rg.lex_nil ?_
    cases b with
    | false =>
      go_wp2_with fail
      have hq : R = ([], 12) := by rw [HRR.out, if_pos (of_decide_eq_false HBB.out.symm)]
      go_ret2
      exact ⟨_, by rw [hq]; rfl, by rw [hq]; exact Kd.R_nil _ _ _ _ _, HB3.out⟩
    | true =>
      go_wp2_with fail
      have hcl := clone8 a c (l.take n) (by rw [HTL.out]; exact HCT.out _ HB3.out) (by rw [HTL.out]; omega)
      rw [HTL.out] at hcl
      refine hcl.mono ?_
      clear hcl
      rintro e w4 ⟨v4, rfl, hr4, b4, _⟩
      have HR4 := Aside0.mk (Kd.R_lower hr4 HB3.out.size)
      have HB4 := Aside0.mk (HB3.out.trans (b4.mono HB3.out.size))
      clear hr4 b4
      go_wp2_with fail
      have hq : R = (l.take n, 0) := by rw [HRR.out, if_neg (fun h => h (of_decide_eq_true HBB.out.symm))]
      go_ret2
      exact ⟨_, by rw [hq]; rfl, by rw [hq]; exact HR4.out, HB4.out⟩
end Cell
end Go.Proofs.Ytopfjmeejpamjaa
end
section
namespace Go.Proofs.Ytopfjmeejpamjaa
set_option linter.unusedVariables false
set_option linter.unusedSimpArgs false
open Go.RowKit Go.Proofs.YtopfjmeejpamjaaW.PrintWords Go.Proofs.YtopfjmeejpamjaaW.PrintLast Go.Proofs.YtopfjmeejpamjaaW.PrintMore
namespace Cell
open Go.Num Go.Crc PCellGets
theorem byte_inj {x y : Int} (hx : 0 ≤ x ∧ x ≤ 255) (hy : 0 ≤ y ∧ y ≤ 255) (h : UInt8.ofNat x.toNat = UInt8.ofNat y.toNat) : x = y := by
  have := congrArg UInt8.toNat h
  rw [UInt8.toNat_ofNat', UInt8.toNat_ofNat', Nat.mod_eq_of_lt (by omega), Nat.mod_eq_of_lt (by omega)] at this
  omega
theorem map_inj : ∀ {xs ys : List Int}, (∀ x ∈ xs, 0 ≤ x ∧ x ≤ 255) → (∀ x ∈ ys, 0 ≤ x ∧ x ≤ 255) → (xs.map fun n => UInt8.ofNat n.toNat) = (ys.map fun n => UInt8.ofNat n.toNat) → xs = ys
  | [], [], _, _, _ => rfl
  | x :: xs, y :: ys, hx, hy, h => by
    simp only [List.map_cons, List.cons.injEq] at h
    rw [byte_inj (hx x List.mem_cons_self) (hy y List.mem_cons_self) h.1, map_inj (fun z hz => hx z (List.mem_cons_of_mem _ hz)) (fun z hz => hy z (List.mem_cons_of_mem _ hz)) h.2]
  | [], y :: ys, _, _, h => by simp at h
  | x :: xs, [], _, _, h => by simp at h
theorem str_inj {xs ys : List Int} (hx : ∀ x ∈ xs, 0 ≤ x ∧ x ≤ 255) (hy : ∀ x ∈ ys, 0 ≤ x ∧ x ≤ 255) (h : (strOfNums xs).toList = (strOfNums ys).toList) : xs = ys := by
  rw [ByteArray.toList_eq, ByteArray.toList_eq, strOfNums_data, strOfNums_data] at h
  exact map_inj hx hy h
theorem str8 {w : World} {base : Nat} {ok : Nat → Prop} {A : Option Addr} {l c : Nat} {xs : List Int} (h : Kd.R (Kd.int .u8) 5 w base ok (.slice A l c) xs) (x : World) (b : Below w.heap.size w x) : (convert 26 9 (.slice A l c)).run Try.prog x = .ok (.string (strOfNums xs)) x := by
  have h2 := Kd.R_below h b
  obtain ⟨A2, c2, e⟩ := Kd.R_slice h2
  cases e
  exact Kd.C_string Try.underlying26 Try.underlying5 Try.underlying9 (row_at h2)
theorem below_steps {x y z : World} (h : Below x.heap.size x y) (k : Below y.heap.size y z) : Below x.heap.size x z := h.trans (k.mono h.size)
theorem strC {w : World} {A : Option Addr} {n c : Nat} {xs : List Int} (h : Kd.C (Kd.int .u8) w A n xs) : (convert 26 9 (.slice A n c)).run Try.prog w = .ok (.string (strOfNums xs)) w :=
  Kd.C_string Try.underlying26 Try.underlying5 Try.underlying9 h
set_option maxHeartbeats 8000000 in
set_option maxRecDepth 100000 in
theorem xopen_any (A : Option Addr) (c : Nat) (l : List Int) (w : World) (hC : Kd.C (Kd.int .u8) w A l.length l) (hb : ∀ x ∈ l, 0 ≤ x ∧ x ≤ 255) (hl : l.length ≤ 200000) (hc : l.length ≤ c) :
    Calls Try.prog 80 #[.slice A l.length c] w fun e w' => ∃ A' c', e = .returned (.tuple #[.slice A' (openP l).1.length c', .int .i64 (openP l).2]) ∧ (openP l).1.length ≤ c' ∧ (∀ x, Below w.heap.size w x → Kd.C (Kd.int .u8) x A' (openP l).1.length (openP l).1) ∧ Below w.heap.size w w' := by
  have HC := Aside0.mk hC
  have HBY := Aside0.mk hb
  have HNIL := Aside0.mk (show ∀ x : World, Kd.C (Kd.int .u8) x none 0 [] from fun x => ⟨rfl, by decide, fun h => absurd h (by decide)⟩)
  clear hC hb
  obtain ⟨R, hR⟩ : ∃ R, R = openP l := ⟨_, rfl⟩
  rw [← hR]
  by_cases h4 : l.length < 4
  · have HQ := Aside0.mk (show R = ([], 12) by rw [hR]; unfold openP; rw [if_pos (.inl h4)])
    clear hR
    have hneg : (l.length : Int) - 4 < 0 := by omega
    go_enter Try.func80, Try.ntmps80
    go_wp2_with fail
    refine Go.Rg.region (Below w.heap.size w) (fun x y => Below x.heap.size x y) (fun x => Below.refl _ x) (fun x y z => below_steps) [.s, .s, .s, .s, .s, .s, .v, .s, .s, .s, .s, .s] (by kernel_rfl) (by kernel_rfl) (below_drew1 (Below.refl _ _)) (fun ne => ?_)
    refine Go.Rg.lex_q 6 _ _ _ _ _ (by rfl) ?_; simp only [List.take_succ_cons, List.take_zero, List.drop_succ_cons, List.drop_zero]; (repeat (go_big_quiet_step (rfl))); refine wpQuiet_nil ?_
    refine Go.Rg.step_v (fun K' hK => ?_)
    go_wp2_with fail
    refine hK.out _ _ (below_drew1 (Below.refl _ _)) (Below.refl _ _) ?_
    clear hK K'
    try simp only [Act.put, List.setIfInBounds_toArray, List.set_cons_succ, List.set_cons_zero]
    refine Go.Rg.lex_q 5 _ _ _ _ _ (by rfl) ?_; simp only [List.take_succ_cons, List.take_zero, List.drop_succ_cons, List.drop_zero]; (repeat (go_big_quiet_step (rfl))); refine wpQuiet_nil ?_
    refine Go.Rg.lex_nil ?_
    go_wp2_with fail
    go_ret2
    exact ⟨none, 0, by rw [HQ.out]; rfl, by rw [HQ.out]; exact Nat.le_refl _, fun x hx => by rw [HQ.out]; exact HNIL.out x, below_drew1 (Below.refl _ _)⟩
  · obtain ⟨a, rfl⟩ : ∃ a, A = some a := by obtain ⟨a, ha, _⟩ := HC.out.2.2 (by omega); exact ⟨a, ha⟩
    obtain ⟨n, hn⟩ : ∃ n : Nat, l.length = n + 4 := ⟨l.length - 4, by omega⟩
    have ho : openP l = if l.drop n ≠ leB (Crc.sum (l.take n)) 4 then ([], 12) else (l.take n, 0) := by
      unfold openP
      rw [show l.length - 4 = n by omega]
      by_cases hd : l.drop n ≠ leB (Crc.sum (l.take n)) 4
      · rw [if_pos (.inr hd), if_pos hd]
      · rw [if_neg (by intro h; rcases h with h | h; omega; exact hd h), if_neg hd]
    have HRR := Aside0.mk (hR.trans ho)
    have HCT := Aside0.mk (show ∀ x, Below w.heap.size w x → Kd.C (Kd.int .u8) x (some a) n (l.take n) from fun x hx => take_C (Kd.C_below HC.out hx) n (by omega))
    have HTB := Aside0.mk (show ∀ x ∈ l.take n, 0 ≤ x ∧ x ≤ 255 from fun x hx => HBY.out x (List.mem_of_mem_take hx))
    have HTL := Aside0.mk (show (l.take n).length = n by rw [List.length_take]; omega)
    have HSL := Aside0.mk (show (sealB (l.take n)).length = n + 4 by rw [seal_len, HTL.out])
    have HLN := Aside0.mk hn
    rw [hn] at hl hc ⊢
    clear ho h4 hn hR
    have q2 : decide ((n : Int) < 0) = false := decide_eq_false (by omega)
    have q3 : (n : Int) ≤ (n : Int) + 4 := by omega
    have q4 : (n : Int) + 4 ≤ c := by omega
    have q5 : (n : Int) ≤ c := by omega
    obtain ⟨U, hU⟩ : ∃ U, U = strOfNums l := ⟨_, rfl⟩
    have HU := Aside0.mk hU
    have hsu : ∀ m : Go.Reg.In (Below w.heap.size w), (convert 26 9 (.slice (some a) (n + 4) c)).run Try.prog m.w = .ok (.string U) m.w := fun m => by rw [HU.out]; have := Kd.C_below HC.out m.h; rw [HLN.out] at this; exact strC this
    obtain ⟨T, hT⟩ : ∃ T, T = strOfNums (sealB (l.take n)) := ⟨_, rfl⟩
    have HT := Aside0.mk hT
    have HFIN := Aside0.mk (show (T = U ∧ R = (l.take n, 0)) ∨ (¬ T.toList = U.toList ∧ R = ([], 12)) by
      by_cases hd : l.drop n ≠ leB (Crc.sum (l.take n)) 4
      · right
        refine ⟨fun e => hd ?_, by rw [HRR.out, if_pos hd]⟩
        rw [hT, hU] at e
        have e2 := str_inj (seal_byte HTB.out) HBY.out e
        have e3 := congrArg (List.drop n) e2
        unfold sealB at e3
        rw [List.drop_append_of_le_length (by rw [HTL.out]; exact Nat.le_refl _), List.drop_eq_nil_of_le (by rw [HTL.out]; exact Nat.le_refl _), List.nil_append] at e3
        exact e3.symm
      · left
        refine ⟨?_, by rw [HRR.out, if_neg hd]⟩
        rw [hT, hU]
        congr 1
        unfold sealB
        have hd' : l.drop n = leB (Crc.sum (l.take n)) 4 := Classical.not_not.1 hd
        rw [← hd', List.take_append_drop])
    clear hU hT
    have STEP : ∀ (w1 : World) (b : Bool), True := fun _ _ => trivial
    rcases HFIN.out with ⟨hTU, hq⟩ | ⟨hTU, hq⟩
    all_goals
      have HQ := Aside0.mk hq
      clear hq STEP HFIN
      try subst hTU
      try have hne : (!T.toList == U.toList) = true := by simpa using hTU
      go_enter Try.func80, Try.ntmps80
      go_wp2_with fail
      refine Go.Rg.region (Below w.heap.size w) (fun x y => Below x.heap.size x y) (fun x => Below.refl _ x) (fun x y z => below_steps) [.s, .s, .s, .s, .s, .s, .w, .r, .s, .s, .s, .s] (by kernel_rfl) (by kernel_rfl) (below_drew1 (Below.refl _ _)) (fun ne => ?_)
      refine Go.Rg.lex_q 6 _ _ _ _ _ (by rfl) ?_; simp only [List.take_succ_cons, List.take_zero, List.drop_succ_cons, List.drop_zero]; (repeat (go_big_quiet_step (rfl))); refine wpQuiet_nil ?_
      refine Go.Rg.step_w (by rfl) (fun K' hK => ?_)
      go_wp2_with fail
      have HB1 := Aside0.mk (below_drew1 (Below.refl w.heap.size w))
      have hs := chantryref02_Seal.calls (0 + 11 * (l.take n).length + 1) (some a) c (l.take n) (sealB (l.take n)) _ (by rw [HTL.out]; exact HCT.out _ HB1.out) (by rw [HTL.out]; omega) (xseal_plain 0 _ HTB.out (by rw [HTL.out]; omega))
      rw [HTL.out] at hs
      refine hs.mono ?_
      clear hs
      rintro e w2 ⟨v2, rfl, hr2, b2⟩
      obtain ⟨A2, c2, rfl⟩ := Kd.R_slice hr2
      have HR2 := Aside0.mk hr2
      have HB2 := Aside0.mk (below_steps HB1.out b2)
      have HS2 := Aside0.mk b2
      clear hr2 b2
      rw [HSL.out] at HR2 ⊢
      go_wp2_with fail
      refine hK.out _ _ HB2.out HS2.out ?_
      clear hK K'
      try simp only [Act.put, List.setIfInBounds_toArray, List.set_cons_succ, List.set_cons_zero]
      refine Go.Rg.lex_rm 1 _ _ _ _ _ (by rfl) ?_; simp only [List.take_succ_cons, List.take_zero, List.drop_succ_cons, List.drop_zero]
      have hst : ∀ m : Go.Reg.In (fun y => Below w.heap.size w y ∧ Below w2.heap.size w2 y), (convert 26 9 (.slice A2 (n + 4) c2)).run Try.prog m.w = .ok (.string T) m.w := fun m => by rw [HT.out]; exact str8 HR2.out _ m.h.2
      (repeat (go_big_quiet_step (rfl))); refine wpQuiet_nil ?_
      refine Go.Rg.lex_q 4 _ _ _ _ _ (by rfl) ?_; simp only [List.take_succ_cons, List.take_zero, List.drop_succ_cons, List.drop_zero]; (repeat (go_big_quiet_step (rfl))); refine wpQuiet_nil ?_
      refine Go.Rg.lex_nil ?_
      clear hst hsu
      go_wp2_with fail
      go_ret2
      first
        | exact ⟨none, 0, by rw [HQ.out]; rfl, by rw [HQ.out]; exact Nat.le_refl _, fun x hx => by rw [HQ.out]; exact HNIL.out x, HB2.out⟩
        | exact ⟨some a, c, by rw [HQ.out]; show _ = Ending.returned (.tuple #[.slice (some a) (l.take n).length c, .int .i64 0]); rw [HTL.out]; rfl, by rw [HQ.out]; show (l.take n).length ≤ c; rw [HTL.out]; omega, fun x hx => by rw [HQ.out]; show Kd.C _ x (some a) (l.take n).length (l.take n); rw [HTL.out]; exact HCT.out x hx, HB2.out⟩
end Cell
end Go.Proofs.Ytopfjmeejpamjaa
end
section
namespace Go.Proofs.Ytopfjmeejpamjaa
set_option linter.unusedVariables false
set_option linter.unusedSimpArgs false
open Go.RowKit Go.Proofs.YtopfjmeejpamjaaW.PrintWords Go.Proofs.YtopfjmeejpamjaaW.PrintLast Go.Proofs.YtopfjmeejpamjaaW.PrintMore
namespace Cell
open Go.Num Go.Crc PCellGets
def u8s (l : List Int) : List Value := l.map (Value.int .u8)
theorem u8s_len (l : List Int) : (u8s l).length = l.length := List.length_map _
structure Only (b : Nat) (w w' : World) : Prop where
  os : w'.os = w.os
  tape : w'.tape = w.tape
  output : w'.output = w.output
  size : w.heap.size ≤ w'.heap.size
  block : ∀ k, k < w.heap.size → k ≠ b → w'.heap[k]? = w.heap[k]?
theorem Only.refl (b : Nat) (w : World) : Only b w w := ⟨rfl, rfl, rfl, Nat.le_refl _, fun _ _ _ => rfl⟩
theorem Only.trans {b : Nat} {x y z : World} (h : Only b x y) (k : Only b y z) : Only b x z :=
  ⟨k.os.trans h.os, k.tape.trans h.tape, k.output.trans h.output, Nat.le_trans h.size k.size, fun q hq hn => (k.block q (Nat.lt_of_lt_of_le hq h.size) hn).trans (h.block q hq hn)⟩
theorem Only.of_below {b : Nat} {x y : World} (h : Below x.heap.size x y) : Only b x y := ⟨h.os, h.tape, h.output, h.size, fun k hk _ => h.block k hk⟩
theorem Only.set (w : World) (b k : Nat) (v : Value) : Only b w (w.setCell ⟨b, k, none⟩ v) :=
  ⟨rfl, rfl, rfl, by simp [World.setCell], fun q _ hn => Below.heap_setCell _ _ _ _ hn⟩
theorem Only.below {b base : Nat} {x y : World} (h : Only b x y) (hb : base ≤ b) (hx : base ≤ x.heap.size) : Below base x y := ⟨h.os, h.tape, h.output, h.size, fun k hk => h.block k (by omega) (by omega)⟩
structure PCx (w : World) (base cb : Nat) (bs : List Int) (g off c : Nat) (all : List Int) (sp : List Value) : Prop where
  cbase : base ≤ cb
  cells : w.heap[cb]? = some (.cells #[.slice (some ⟨g, off, none⟩) bs.length c, .bool false] 112 (0, 0))
  row : w.heap[g]? = some (.cells (u8s all ++ sp).toArray 5 (0, 0))
  at_ : bs = all.drop off ∨ bs = []
  room : bs.length ≤ c
  few : bs.length ≤ 200000
def PC (w : World) (base cb : Nat) (bs : List Int) (bad : Bool) : Prop :=
  if bad then base ≤ cb ∧ bs = [] ∧ w.heap[cb]? = some (.cells #[.slice none 0 0, .bool true] 112 (0, 0)) else ∃ g off c all sp, PCx w base cb bs g off c all sp
theorem PCx.ne {w : World} {base cb g off c : Nat} {bs all : List Int} {sp : List Value} (h : PCx w base cb bs g off c all sp) : g ≠ cb := by
  rintro rfl
  have := h.cells.symm.trans h.row
  simp at this
theorem PCx.C {w : World} {base cb g off c : Nat} {bs all : List Int} {sp : List Value} (h : PCx w base cb bs g off c all sp) : Kd.C (Kd.int .u8) w (some ⟨g, off, none⟩) bs.length bs := by
  have hf := h.few
  refine Kd.C_of_reads (enc := fun x => Value.int .u8 x) (d := (0:Int)) (h1 := fun _ => rfl) ⟨rfl, by omega, fun _ => ⟨_, rfl, fun j hj => ?_⟩⟩
  rcases h.at_ with he | he
  · have hadd : (⟨g, off, none⟩ : Addr).add j = ⟨g, off + j, none⟩ := by unfold Addr.add; split <;> simp_all
    have hja : off + j < all.length := by rw [he, List.length_drop] at hj; omega
    rw [hadd, cell_blk h.row, List.getElem?_toArray, List.getElem?_append_left (by rw [u8s_len]; exact hja)]
    unfold u8s
    rw [List.getElem?_map, List.getD_eq_getElem?_getD, he, List.getElem?_drop, List.getElem?_eq_getElem hja]
    rfl
  · rw [he] at hj; simp at hj
theorem PC.only {w w' : World} {base cb b : Nat} {bs : List Int} {bad : Bool} (h : PC w base cb bs bad) (f : Below w.heap.size w w') : PC w' base cb bs bad := by
  unfold PC at *
  cases bad with
  | true => exact ⟨h.1, h.2.1, (f.block _ (blk_lt h.2.2)).trans h.2.2⟩
  | false =>
    obtain ⟨g, off, c, all, sp, h⟩ := h
    exact ⟨g, off, c, all, sp, h.cbase, (f.block _ (blk_lt h.cells)).trans h.cells, (f.block _ (blk_lt h.row)).trans h.row, h.at_, h.room, h.few⟩
set_option maxRecDepth 100000 in
theorem bad_any {w : World} {base cb : Nat} {bs : List Int} {bad : Bool} (h : PC w base cb bs bad) :
    Calls Try.prog 36 #[.pointer (some ⟨cb, 0, none⟩)] w fun e w' => e = .returned (.bool bad) ∧ w' = w := by
  have c1 : w.cell? ⟨cb, 1, none⟩ = some (.bool bad) := by
    unfold PC at h
    cases bad with
    | true => exact cell_blk h.2.2
    | false => obtain ⟨_, _, _, _, _, h⟩ := h; exact cell_blk h.cells
  clear h
  go_enter Try.func36, Try.ntmps36
  go_wp2_with fail
  go_ret
  exact ⟨rfl, rfl⟩
set_option maxHeartbeats 8000000 in
set_option maxRecDepth 100000 in
theorem fail_any {w : World} {base cb : Nat} {bs : List Int} {bad : Bool} (h : PC w base cb bs bad) :
    Calls Try.prog 75 #[.pointer (some ⟨cb, 0, none⟩)] w fun e w' => (∃ v, e = .returned v) ∧ PC w' base cb [] true ∧ Only cb w w' := by
  obtain ⟨v0, v1, hc, hb, one⟩ : ∃ v0 v1, w.heap[cb]? = some (.cells #[v0, v1] 112 (0, 0)) ∧ base ≤ cb ∧ v0.oneCell' = true := by
    unfold PC at h
    cases bad with
    | true => exact ⟨_, _, h.2.2, h.1, rfl⟩
    | false => obtain ⟨_, _, _, _, _, h⟩ := h; exact ⟨_, _, h.cells, h.cbase, rfl⟩
  have c0 : w.cell? ⟨cb, 0, none⟩ = some v0 := cell_blk hc
  have f0 : w.frozen? ⟨cb, 0, none⟩ = false := frozen_blk hc
  have c1 : w.cell? ⟨cb, 1, none⟩ = some v1 := cell_blk hc
  have f1 : w.frozen? ⟨cb, 1, none⟩ = false := frozen_blk hc
  have HC := Aside0.mk hc
  have HB := Aside0.mk hb
  clear h hc hb
  go_enter Try.func75, Try.ntmps75
  go_wp2_with fail
  go_end0
  refine ⟨⟨_, rfl⟩, ⟨HB.out, rfl, ?_⟩, (Only.set _ _ _ _).trans (Only.set _ _ _ _)⟩
  rw [blk_set (blk_set HC.out 0 _) 1 _]
  rfl
set_option maxHeartbeats 8000000 in
set_option maxRecDepth 100000 in
theorem from_any {w : World} (a : Addr) (c : Nat) (l : List Int) (hC : Kd.C (Kd.int .u8) w (some a) l.length l) (hl : l.length ≤ 200000) :
    Calls Try.prog 32 #[.slice (some a) l.length c] w fun e w' => ∃ cb, e = .returned (.pointer (some ⟨cb, 0, none⟩)) ∧ PC w' w.heap.size cb l false ∧ Below w.heap.size w w' := by
  have HC := Aside0.mk hC
  clear hC
  go_enter Try.func32, Try.ntmps32
  go_wp2_with fail
  refine (clone8 a c l HC.out (by omega)).mono ?_
  rintro e w1 ⟨v, rfl, hr, b1, hv⟩
  obtain ⟨_, ho⟩ := Kd.own_of_R hr
  rcases ho with ⟨hv', _⟩ | ⟨g, cap, cur, rfl, hbase, hb, hn, hmx, hcs, hcur⟩
  · exact absurd hv' hv
  have hrow : w1.heap[g]? = some (.cells (u8s l ++ cur.toList.drop l.length).toArray 5 (0, 0)) := by
    rw [hb]
    have e : u8s l = cur.toList.take l.length := by rw [Nat.mul_one] at hcur; exact hcur.symm
    rw [e, List.take_append_drop]
  have HB1 := Aside0.mk b1
  have HROW := Aside0.mk hrow
  have HN := Aside0.mk hn
  clear hr b1 hv hb hcs hcur hrow hbase
  go_wp2_with fail
  go_ret
  have hx : (w1.alloc (.cells #[.slice (some ⟨g, 0, none⟩) l.length cap, .bool false] 112)).heap[w1.heap.size]? = some (.cells #[.slice (some ⟨g, 0, none⟩) l.length cap, .bool false] 112 (0, 0)) := heap_alloc_new w1 _
  have hb2 : Below w1.heap.size w1 (w1.alloc (.cells #[.slice (some ⟨g, 0, none⟩) l.length cap, .bool false] 112)) := (Below.refl _ _).alloc (Nat.le_refl _) _
  exact ⟨w1.heap.size, rfl, ⟨g, 0, cap, l, _, HB1.out.size, hx, (hb2.block _ (blk_lt HROW.out)).trans HROW.out, .inl rfl, HN.out, hl⟩, HB1.out.trans (hb2.mono HB1.out.size)⟩
def takeOk (bs : List Int) (bad : Bool) (n : Int) : Bool := !bad && (decide (0 ≤ n) && decide (n ≤ bs.length))
set_option maxHeartbeats 8000000 in
set_option maxRecDepth 100000 in
theorem take_no {w : World} {base cb : Nat} {bs : List Int} {bad : Bool} (h : PC w base cb bs bad) (n : Int) (hk : takeOk bs bad n = false) :
    Calls Try.prog 35 #[.pointer (some ⟨cb, 0, none⟩), .int .i64 n] w fun e w' => e = .returned (.slice none 0 0) ∧ PC w' base cb [] true ∧ Only cb w w' := by
  have HP := Aside0.mk h
  cases bad with
  | true =>
    clear h hk
    go_enter Try.func35, Try.ntmps35
    go_wp2_with fail
    refine (bad_any HP.out).mono ?_
    rintro e w1 ⟨rfl, rfl⟩
    go_wp2_with fail
    refine (fail_any HP.out).mono ?_
    rintro e w2 ⟨⟨v, rfl⟩, p, o⟩
    have HP2 := Aside0.mk p
    have HO2 := Aside0.mk o
    clear p o
    go_wp2_with fail
    go_ret
    exact ⟨rfl, HP2.out, HO2.out⟩
  | false =>
    obtain ⟨g, off, c, all, sp, hx⟩ := h
    have c0 : w.cell? ⟨cb, 0, none⟩ = some (.slice (some ⟨g, off, none⟩) bs.length c) := cell_blk hx.cells
    clear hx
    have hk' : n < 0 ∨ (bs.length : Int) < n := by
      unfold takeOk at hk
      simp at hk
      omega
    clear hk
    by_cases hn : n < 0
    · clear hk'
      go_enter Try.func35, Try.ntmps35
      go_wp2_with fail
      refine (bad_any HP.out).mono ?_
      rintro e w1 ⟨rfl, rfl⟩
      go_wp2_with fail
      refine (fail_any HP.out).mono ?_
      rintro e w2 ⟨⟨v, rfl⟩, p, o⟩
      have HP2 := Aside0.mk p
      have HO2 := Aside0.mk o
      clear p o c0
      go_wp2_with fail
      go_ret
      exact ⟨rfl, HP2.out, HO2.out⟩
    · have hgt : (bs.length : Int) < n := by omega
      clear hk'
      go_enter Try.func35, Try.ntmps35
      go_wp2_with fail
      refine (bad_any HP.out).mono ?_
      rintro e w1 ⟨rfl, rfl⟩
      go_wp2_with fail
      refine (fail_any HP.out).mono ?_
      rintro e w2 ⟨⟨v, rfl⟩, p, o⟩
      have HP2 := Aside0.mk p
      have HO2 := Aside0.mk o
      clear p o c0
      go_wp2_with fail
      go_ret
      exact ⟨rfl, HP2.out, HO2.out⟩
theorem copy8 {w : World} {g : Nat} (a : Addr) (n sl sc : Nat) (P : List Int) (hb : w.heap[g]? = some (.cells (u8s (List.replicate n 0)).toArray 5 (0, 0))) (hP : P.length = n) (hn : n ≤ sl) (hs : ∀ j, j < P.length → w.cell? (a.add j) = some (.int .u8 (P.getD j 0))) :
    ∃ w', (Builtin.copy_ #[26, 26] 3 #[.slice (some ⟨g, 0, none⟩) n n, .slice (some a) sl sc]).run Try.prog w = .ok (.int .i64 (n : Int)) w' ∧ w'.heap[g]? = some (.cells (u8s P).toArray 5 (0, 0)) ∧ Only g w w' := by
  have hsz : ∀ j, j < P.length → 0 + j < (u8s (List.replicate n 0)).toArray.size := fun j hj => by rw [List.size_toArray, u8s_len, List.length_replicate]; omega
  have hr := run_copy_cells (P := Try.prog) w 26 26 3 5 g 0 n n a sl sc (u8s P) Try.underlying26 (by kernel_rfl) (by rw [u8s_len, hP]; show n = min sl n; omega) (fun j v hv => ?_) (fun j hj => ?_) (fun j hj => ?_) (fun v hv => ?_)
  · refine ⟨w.setCells g 0 (u8s P), ?_, ?_, ?_⟩
    · rw [u8s_len, hP] at hr
      exact hr
    · obtain ⟨cur', h1, h2, h3⟩ := setCells_row (u8s P) 0 w (u8s (List.replicate n 0)).toArray hb (by rw [List.size_toArray, u8s_len, u8s_len, List.length_replicate]; omega)
      rw [h1]
      have : cur' = (u8s P).toArray := by
        apply Array.ext'
        rw [h3]
        simp only [List.take_zero, List.nil_append, Nat.zero_add]
        rw [List.drop_eq_nil_of_le (by rw [u8s_len, u8s_len, List.length_replicate]; omega), List.append_nil]
      rw [this]
    · obtain ⟨s1, s2, s3, s4⟩ := setCells_same g (u8s P) 0 w
      exact ⟨s1, s2, s3, by rw [s4]; exact Nat.le_refl _, fun k _ hk => setCells_far _ _ _ hk⟩
  · have hjl : j < P.length := by
      rcases Nat.lt_or_ge j P.length with h | h
      · exact h
      · rw [List.getElem?_eq_none (by rw [u8s_len]; exact h)] at hv; cases hv
    have e : v = .int .u8 (P.getD j 0) := by
      unfold u8s at hv
      rw [List.getElem?_map, List.getElem?_eq_getElem hjl] at hv
      simp at hv
      rw [← hv]
      simp [hjl]
    rw [e]
    exact hs j hjl
  · rw [cell_blk hb, Array.getElem?_eq_getElem (hsz j (by rw [u8s_len] at hj; exact hj))]
    rfl
  · exact frozen_blk hb
  · unfold u8s at hv
    obtain ⟨x, _, rfl⟩ := List.mem_map.1 hv
    rfl
set_option maxHeartbeats 8000000 in
set_option maxRecDepth 100000 in
theorem take_yes {w : World} {base cb : Nat} {bs : List Int} (h : PC w base cb bs false) (n : Nat) (hk : n ≤ bs.length) :
    Calls Try.prog 35 #[.pointer (some ⟨cb, 0, none⟩), .int .i64 n] w fun e w' => ∃ v, e = .returned v ∧ Kd.R (Kd.int .u8) 5 w' w.heap.size (fun _ => True) v (bs.take n) ∧ PC w' base cb (bs.drop n) false ∧ Only cb w w' := by
  have HP := Aside0.mk h
  obtain ⟨g, off, c, all, sp, hx⟩ := h
  have c0 : w.cell? ⟨cb, 0, none⟩ = some (.slice (some ⟨g, off, none⟩) bs.length c) := cell_blk hx.cells
  have hfew := hx.few
  have hroom := hx.room
  have hcl : cb < w.heap.size := blk_lt hx.cells
  have HX := Aside0.mk hx
  have hmk : ∀ W : World, (Instr.makeSlice 26 (.int .i64 (n : Int)) (.int .i64 (n : Int))).run Try.prog W = .ok (.slice (some ⟨W.heap.size, 0, none⟩) n n) (W.alloc (.cells (u8s (List.replicate n 0)).toArray 5)) := fun W => by
    have := make8 n (by omega) W
    rw [made8] at this
    exact this
  have hn0 : decide ((n : Int) < 0) = false := decide_eq_false (by omega)
  have hn1 : decide (bs.length < n) = false := decide_eq_false (by omega)
  obtain ⟨W, hW⟩ : ∃ W, W = w.alloc (.cells (u8s (List.replicate n 0)).toArray 5) := ⟨_, rfl⟩
  have hbW : Below w.heap.size w W := by rw [hW]; exact (Below.refl _ _).alloc (Nat.le_refl _) _
  have hnew : W.heap[w.heap.size]? = some (.cells (u8s (List.replicate n 0)).toArray 5 (0, 0)) := by rw [hW]; exact heap_alloc_new w _
  have htl : (bs.take n).length = n := by rw [List.length_take]; omega
  obtain ⟨w2, hcp, hrow2, ho2⟩ := copy8 (w := W) ⟨g, off, none⟩ n bs.length c (bs.take n) hnew htl hk (fun j hj => by
    obtain ⟨ad, e, hcell⟩ := Kd.at_int (Kd.C_below hx.C hbW) (j : Int) (by omega) (by omega)
    cases e
    rw [Int.toNat_natCast] at hcell
    rw [hcell]
    unfold rd
    rw [Int.toNat_natCast, List.getD_eq_getElem?_getD, List.getD_eq_getElem?_getD, List.getElem?_take_of_lt (by omega)])
  have hO : ∀ k, k < w.heap.size → w2.heap[k]? = w.heap[k]? := fun k hk' => (ho2.block k (Nat.lt_of_lt_of_le hk' hbW.size) (by omega)).trans (hbW.block k hk')
  have hB2 : Below w.heap.size w w2 := ⟨ho2.os.trans hbW.os, ho2.tape.trans hbW.tape, ho2.output.trans hbW.output, Nat.le_trans hbW.size ho2.size, hO⟩
  have hcells2 := (hO cb hcl).trans hx.cells
  have d0 : w2.cell? ⟨cb, 0, none⟩ = some (.slice (some ⟨g, off, none⟩) bs.length c) := cell_blk hcells2
  have g0 : w2.frozen? ⟨cb, 0, none⟩ = false := frozen_blk hcells2
  have HC2 := Aside0.mk hcells2
  have HR2 := Aside0.mk ((hO g (blk_lt hx.row)).trans hx.row)
  have HB2 := Aside0.mk hB2
  have HNEW := Aside0.mk hrow2
  have HTL := Aside0.mk htl
  have HNE := Aside0.mk (show w.heap.size ≠ cb by omega)
  rw [hW] at hcp
  clear hx hbW hnew htl hrow2 ho2 hO hB2 hcells2 hW HP
  have fin : ∀ (A' : Addr) (c' : Nat), (A' = ⟨g, off + n, none⟩ ∨ (A' = ⟨g, off, none⟩ ∧ bs.length = n)) → bs.length - n ≤ c' → Kd.R (Kd.int .u8) 5 (w2.setCell ⟨cb, 0, none⟩ (.slice (some A') (bs.length - n) c')) w.heap.size (fun _ => True) (.slice (some ⟨w.heap.size, 0, none⟩) n n) (bs.take n) ∧ PC (w2.setCell ⟨cb, 0, none⟩ (.slice (some A') (bs.length - n) c')) base cb (bs.drop n) false ∧ Only cb w (w2.setCell ⟨cb, 0, none⟩ (.slice (some A') (bs.length - n) c')) := fun A' c' hA hc' => by
    have hs := blk_set HC2.out 0 (.slice (some A') (bs.length - n) c')
    have hne := HX.out.ne
    refine ⟨?_, ?_, (Only.of_below HB2.out).trans (Only.set _ _ _ _)⟩
    · have hr : (w2.setCell ⟨cb, 0, none⟩ (.slice (some A') (bs.length - n) c')).heap[w.heap.size]? = some (.cells ((bs.take n).map (Value.int .u8) ++ []).toArray 5 (0, 0)) := by
        rw [Below.heap_setCell _ _ _ _ HNE.out, List.append_nil]
        exact HNEW.out
      have := row_of (base := w.heap.size) (ok := fun _ => True) hr (Nat.le_refl _) trivial (cap := n) (by rw [HTL.out]; rfl) (by omega)
      rw [HTL.out] at this
      exact this
    · have hdl : (bs.drop n).length = bs.length - n := List.length_drop
      have hat : bs.drop n = all.drop (off + n) ∨ bs.drop n = [] := by
        rcases HX.out.at_ with he | he
        · left; rw [he, List.drop_drop]
        · right; rw [he, List.drop_nil]
      have hrow : (w2.setCell ⟨cb, 0, none⟩ (.slice (some A') (bs.length - n) c')).heap[g]? = some (.cells (u8s all ++ sp).toArray 5 (0, 0)) := by rw [Below.heap_setCell _ _ _ _ hne]; exact HR2.out
      rcases hA with rfl | ⟨rfl, hl⟩
      · exact ⟨g, off + n, c', all, sp, HX.out.cbase, by rw [hs, hdl]; rfl, hrow, hat, by rw [hdl]; exact hc', by rw [hdl]; omega⟩
      · exact ⟨g, off, c', all, sp, HX.out.cbase, by rw [hs, hdl]; rfl, hrow, .inr (List.drop_eq_nil_of_le (by omega)), by rw [hdl]; exact hc', by rw [hdl]; omega⟩
  have HFIN := Aside0.mk fin
  clear fin
  by_cases hcn : c = n
  · have HBN := Aside0.mk (show bs.length = n by omega)
    subst hcn
    go_enter Try.func35, Try.ntmps35
    go_wp2_with fail
    refine (bad_any (w := w) (base := base) (bs := bs) (bad := false) ⟨g, off, c, all, sp, HX.out⟩).mono ?_
    rintro e w1 ⟨rfl, hw1⟩
    obtain rfl : w1 = w := hw1
    go_wp2_with fail
    go_ret
    have hf := HFIN.out ⟨g, off, none⟩ 0 (.inr ⟨rfl, HBN.out⟩) (by have := HBN.out; omega)
    rw [show bs.length - c = 0 by have := HBN.out; omega] at hf
    exact ⟨_, rfl, hf⟩
  · go_enter Try.func35, Try.ntmps35
    go_wp2_with fail
    refine (bad_any (w := w) (base := base) (bs := bs) (bad := false) ⟨g, off, c, all, sp, HX.out⟩).mono ?_
    rintro e w1 ⟨rfl, hw1⟩
    obtain rfl : w1 = w := hw1
    go_wp2_with fail
    go_ret
    exact ⟨_, rfl, HFIN.out _ _ (.inl rfl) (by omega)⟩
set_option maxRecDepth 100000 in
theorem left_any {w : World} {base cb : Nat} {bs : List Int} (h : PC w base cb bs false) :
    Calls Try.prog 37 #[.pointer (some ⟨cb, 0, none⟩)] w fun e w' => e = .returned (.int .i64 (bs.length : Int)) ∧ w' = w := by
  have HP := Aside0.mk h
  obtain ⟨g, off, c, all, sp, hx⟩ := h
  have c0 : w.cell? ⟨cb, 0, none⟩ = some (.slice (some ⟨g, off, none⟩) bs.length c) := cell_blk hx.cells
  clear hx
  go_enter Try.func37, Try.ntmps37
  go_wp2_with fail
  refine (bad_any HP.out).mono ?_
  rintro e w1 ⟨rfl, rfl⟩
  go_wp2_with fail
  go_ret
  exact ⟨rfl, rfl⟩
def maxL : List Int → Int
  | [] => 0
  | x :: l => max x (maxL l)
theorem maxL_snoc (l : List Int) (x : Int) (hx : 0 ≤ x) : maxL (l ++ [x]) = max (maxL l) x := by
  induction l with
  | nil => simp [maxL]; omega
  | cons y l ih => simp only [List.cons_append, maxL, ih]; omega
theorem maxL_range (l : List Int) (h : ∀ x ∈ l, 0 ≤ x ∧ x ≤ 255) : 0 ≤ maxL l ∧ maxL l ≤ 255 := by
  induction l with
  | nil => simp [maxL]
  | cons y l ih =>
    have h1 := h y List.mem_cons_self
    have h2 := ih (fun z hz => h z (List.mem_cons_of_mem _ hz))
    simp only [maxL]
    omega
theorem maxL_zero (l : List Int) (h : ∀ x ∈ l, 0 ≤ x ∧ x ≤ 255) : maxL l = 0 ↔ ∀ x ∈ l, x = 0 := by
  induction l with
  | nil => simp [maxL]
  | cons y l ih =>
    have h1 := h y List.mem_cons_self
    have h2 := ih (fun z hz => h z (List.mem_cons_of_mem _ hz))
    have h3 := maxL_range l (fun z hz => h z (List.mem_cons_of_mem _ hz))
    simp only [maxL, List.mem_cons, forall_eq_or_imp]
    rw [← h2]
    omega
set_option maxHeartbeats 8000000 in
set_option maxRecDepth 100000 in
theorem max_any {w : World} (A : Option Addr) (c : Nat) (l : List Int) (hC : Kd.C (Kd.int .u8) w A l.length l) (hb : ∀ x ∈ l, 0 ≤ x ∧ x ≤ 255) (h0 : 0 < l.length) (hl : l.length ≤ 200000) :
    Calls Try.prog 74 #[.slice A l.length c] w fun e w' => e = .returned (.int .u8 (maxL l)) ∧ w' = w := by
  have HC := Aside0.mk hC
  have HBY := Aside0.mk hb
  obtain ⟨a, rfl, hcell⟩ := Kd.at_int hC 0 (by omega) (by omega)
  have hz : a.add (0 : Int).toNat = a := by unfold Addr.add; simp
  rw [hz] at hcell
  have hm1 : maxL (l.take 1) = rd l 0 := by
    match l, h0 with
    | x :: l, _ =>
      have := hb x List.mem_cons_self
      simp [maxL, rd]
      omega
  obtain ⟨x0, hx0⟩ : ∃ x, x = rd l 0 := ⟨_, rfl⟩
  rw [← hx0] at hcell hm1
  have HM1 := Aside0.mk hm1
  have hlt : (0 : Int) < l.length := by omega
  clear hC hb hm1 hx0 hz
  go_enter Try.func74, Try.ntmps74
  go_wp2_with fail
  go_loopg [4, 3] (l.length - 1) (fun g v4 v3 wr => ∃ (i : Nat) (x : Int), Aside0 (i + g = l.length ∧ 1 ≤ i) ∧ v4 = .int .i64 i ∧ v3 = .int .u8 x ∧ Aside0 (x = maxL (l.take i)) ∧ Aside0 (wr = w))
  case atStart => exact ⟨1, x0, ⟨by omega⟩, rfl, rfl, ⟨HM1.out.symm⟩, ⟨rfl⟩⟩
  case round =>
    obtain ⟨i, x, HI, rfl, rfl, HX, HW⟩ := hrel
    by_cases hi : i < l.length
    · obtain ⟨ad, e, hc2⟩ := Kd.at_int HC.out (i : Int) (by omega) (by omega)
      cases e
      rw [← HW.out, Int.toNat_natCast] at hc2
      have hyb := rd_byte HBY.out i
      have hxb := maxL_range (l.take i) (fun z hz => HBY.out z (List.mem_of_mem_take hz))
      rw [← HX.out] at hxb
      have HNX := Aside0.mk (show maxL (l.take (i + 1)) = max x (rd l (i : Int)) by
        rw [List.take_succ_eq_append_getElem hi, maxL_snoc _ _ (HBY.out _ (List.getElem_mem hi)).1, rd_get i hi, HX.out])
      obtain ⟨y, hy⟩ : ∃ y, y = rd l (i : Int) := ⟨_, rfl⟩
      rw [← hy] at hc2 hyb HNX
      obtain ⟨hy0, hy1⟩ := hyb
      obtain ⟨hx0, hx1⟩ := hxb
      clear hy
      by_cases hlt2 : x < y
      · have hmx : max x y = y := by omega
        rw [hmx] at HNX
        go_wp2_with fail
        go_roundg (gk - 1)
        case measure => have := HI.out; omega
        case rel => exact ⟨i + 1, y, ⟨by have := HI.out; omega⟩, by go_num, by simp [hmx], ⟨HNX.out.symm⟩, HW⟩
      · have hmx : max x y = x := by omega
        rw [hmx] at HNX
        go_wp2_with fail
        go_roundg (gk - 1)
        case measure => have := HI.out; omega
        case rel => exact ⟨i + 1, x, ⟨by have := HI.out; omega⟩, by go_num, by simp [hmx], ⟨HNX.out.symm⟩, HW⟩
    · have hin : i = l.length := by have := HI.out; omega
      subst hin
      rw [List.take_length] at HX
      go_wp2_with fail
      go_ret
      exact ⟨by rw [← HX.out]; rfl, HW.out⟩
end Cell
end Go.Proofs.Ytopfjmeejpamjaa
end
