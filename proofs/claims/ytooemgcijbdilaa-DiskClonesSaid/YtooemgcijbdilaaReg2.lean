/-
  A region that draws its order, of operations that all tell one value in every world of two classes; one of them may be late: it leads from the first class into the second.
-/
import Derived.Test.YtooemgcijbdilaaReg
namespace Go.Reg
set_option linter.unusedVariables false
set_option linter.unusedSimpArgs false
open Go
variable {P : Program} {ops : Array Oper} {md : Region.Mode} {CT : Bool → World → Prop} {QT : Act → Bool → Prop}
/-- One value in every world of the classes; from class d into class d, or, where it is the late one, into class true. -/
def good (P : Program) (CT : Bool → World → Prop) (t : Bool) (o : Oper) (a : Act) (v : Value) : Prop := ∀ d w, CT d w → o.wp P a w (fun a' w' => a' = a.put o.dst v ∧ CT (d || t) w') NoX
def opT (P : Program) (ops : Array Oper) (CT : Bool → World → Prop) (ts : Nat → Bool) (i : Nat) (K : Act → Bool → Prop) (a : Act) (d : Bool) : Prop :=
  match ops[i]? with
  | none => K a d
  | some o => if Region.wanted o (yielded ops a.tmps) then ∃ v, good P CT (ts i) o a v ∧ K (a.put o.dst v) (d || ts i) else K (a.put o.dst undef) d
def wpT (P : Program) (md : Region.Mode) (ops : Array Oper) (CT : Bool → World → Prop) (ts : Nat → Bool) (QT : Act → Bool → Prop) : Nat → Array Bool → Act → Bool → Prop
  | 0, listed, a, d => Region.ready md ops listed = [] ∧ QT a d
  | fuel + 1, listed, a, d =>
    (Region.ready md ops listed = [] → QT a d) ∧ ∀ i ∈ Region.ready md ops listed, opT P ops CT ts i (wpT P md ops CT ts QT fuel (listed.setIfInBounds i true)) a d
def lexT (P : Program) (ops : Array Oper) (CT : Bool → World → Prop) (QT : Act → Bool → Prop) : List Oper → List Bool → Act → Bool → Prop
  | [], _, a, d => QT a d
  | o :: rest, ts, a, d =>
    if Region.wanted o (yielded ops a.tmps) then ∃ v, good P CT (ts.headD false) o a v ∧ lexT P ops CT QT rest ts.tail (a.put o.dst v) (d || ts.headD false)
    else lexT P ops CT QT rest ts.tail (a.put o.dst undef) d

variable {ts : Nat → Bool}
theorem wpAny_of_T {Q' : Exit → Act → World → Prop} (hQ : ∀ a d w, QT a d → CT d w → Q' .normal a w) : ∀ (fuel : Nat) (listed : Array Bool) (a : Act) (d : Bool) (w : World), CT d w →
    wpT P md ops CT ts QT fuel listed a d → wpAny P md ops Q' fuel listed a w
  | 0, _, _, _, _, hC, h => ⟨h.1, hQ _ _ _ h.2 hC⟩
  | fuel + 1, listed, a, d, w, hC, h => by
    refine ⟨fun h0 => hQ _ _ _ (h.1 h0) hC, fun i hi => ?_⟩
    have h1 := h.2 i hi
    unfold opT at h1
    unfold wpOp
    split
    · rename_i ho; simp only [ho] at h1; exact wpAny_of_T hQ fuel _ _ _ _ hC h1
    · rename_i o ho
      simp only [ho] at h1
      split
      · rename_i hw
        simp only [hw, if_true] at h1
        obtain ⟨v, hg, hk⟩ := h1
        refine .inl (wp_any_mono (hg d w hC) fun a' w' ⟨he, hc⟩ => ?_)
        subst he
        exact wpAny_of_T hQ fuel _ _ _ _ hc hk
      · rename_i hw
        simp only [hw] at h1
        exact wpAny_of_T hQ fuel _ _ _ _ hC h1
theorem put_size (a : Act) (x : Option Tmp) (v : Value) : (a.put x v).tmps.size = a.tmps.size := by
  cases x <;> simp [Act.put]
theorem put_def (a : Act) (x : Option Tmp) (v : Value) : (a.put x v).defers = a.defers := by
  cases x <;> rfl
theorem put_same {a b : Act} {x : Option Tmp} {u v : Value} (hs : b.tmps.size = a.tmps.size) (h : a.put x u = a.put x v) : b.put x u = b.put x v := by
  cases x with
  | none => rfl
  | some d =>
    have h1 : (a.put (some d) u).tmps = (a.put (some d) v).tmps := by rw [h]
    simp only [Act.put] at h1 ⊢
    by_cases hd : d < a.tmps.size
    · have h2 : (a.tmps.setIfInBounds d u)[d]? = (a.tmps.setIfInBounds d v)[d]? := by rw [h1]
      simp [hd] at h2
      rw [h2]
    · have e : ∀ t : Value, b.tmps.setIfInBounds d t = b.tmps := fun t => by
        have hh : ¬ d < b.tmps.size := by rw [hs]; exact hd
        simp only [Array.setIfInBounds, dif_neg hh]
      rw [e, e]
theorem good_to {t : Bool} {o : Oper} {a b : Act} {v : Value} (he : execOp b.eval o = execOp a.eval o) (hs : b.tmps.size = a.tmps.size) (h : good P CT t o a v) : good P CT t o b v := by
  intro d w hC
  refine wp_to he (h d w hC) (fun u w1 hh => ⟨put_same hs hh.1, hh.2⟩) (fun dd w1 hh => ?_)
  have h1 : (Act.put { a with defers := dd :: a.defers } o.dst undef).defers.length = (a.put o.dst v).defers.length := by rw [hh.1]
  rw [put_def, put_def] at h1
  simp at h1
theorem first_t {Y : Act → Prop} {i : Nat} {oi : Oper} {v : Value} {D : List Nat} (ti : Bool) (hi : ops[i]? = some oi)
    (hsame : ∀ a a', Y a → execOp a'.eval oi = execOp a.eval oi → a'.tmps.size = a.tmps.size → Region.wanted oi (yielded ops a'.tmps) = Region.wanted oi (yielded ops a.tmps) → Y a') (hsel : ∀ (j : Nat) (o : Oper) cs b, ops[j]? = some o → o.op ≠ .select cs b)
    (hown : ∀ (K : Act → Bool → Prop) (a : Act) (d : Bool), Y a → K (a.put oi.dst v) (d || ti) → opT P ops CT ts i K a d) :
    ∀ (fuel : Nat) (listed : Array Bool) (a : Act) (d : Bool), Waits md ops listed i D →
      (∀ j oj, ops[j]? = some oj → j ≠ i → j ∉ D → listed.getD j true = false → oi.apart ops oj = true) →
      i ∈ Region.ready md ops listed → Y a → wpT P md ops CT ts QT fuel (listed.setIfInBounds i true) (a.put oi.dst v) (d || ti) → wpT P md ops CT ts QT (fuel + 1) listed a d := by
  intro fuel
  induction fuel with
  | zero =>
    intro listed a d hD _ hr hy H
    refine ⟨fun h => (by rw [h] at hr; cases hr), fun j hj => ?_⟩
    by_cases hji : j = i
    · subst hji; exact hown _ _ _ hy H
    · have := ready_mono hj hji
      rw [H.1] at this
      cases this
  | succ fuel ih =>
    intro listed a d hD hfree hr hy H
    refine ⟨fun h => (by rw [h] at hr; cases hr), fun j hj => ?_⟩
    by_cases hji : j = i
    · subst hji; exact hown _ _ _ hy H
    · have h1 := H.2 j (ready_mono hj hji)
      obtain ⟨hjun, oj, hoj, hall⟩ := mem_ready.1 hj
      have hjD := hD.not_ready (mem_ready.1 hr).1 hj
      have hap := hfree j oj hoj hji hjD hjun
      obtain ⟨e1, e2, e3⟩ := Oper.apart_spec hap
      have hsi := fun cs b => hsel i oi cs b hi
      have hsj := fun cs b => hsel j oj cs b hoj
      have hx : execOp (a.put oi.dst v).eval oj = execOp a.eval oj := execOp_put oj hsj a oi.dst v e1
      have hwt := wanted_put (ops := ops) oj a oi.dst v e1
      have hfree' : ∀ k ok, ops[k]? = some ok → k ≠ i → k ∉ D → (listed.setIfInBounds j true).getD k true = false → oi.apart ops ok = true := fun k ok hk hki hkD hun => by
        refine hfree k ok hk hki hkD ?_
        by_cases hjk : j = k
        · subst hjk; exact hjun
        · rw [getD_set_ne true hjk] at hun; exact hun
      have go : ∀ a1 d1, Y a1 → wpT P md ops CT ts QT fuel ((listed.setIfInBounds i true).setIfInBounds j true) (a1.put oi.dst v) (d1 || ti) → wpT P md ops CT ts QT (fuel + 1) (listed.setIfInBounds j true) a1 d1 := fun a1 d1 hy1 hh => by
        refine ih _ a1 d1 (hD.step hjD) hfree' (ready_mono hr (Ne.symm hji)) hy1 ?_
        rw [Array.setIfInBounds_comm _ _ hji]
        exact hh
      have keep : ∀ u, Y (a.put oj.dst u) := fun u => hsame _ _ hy (execOp_put oi hsi a oj.dst u e3) (put_size _ _ _) (wanted_put oi a oj.dst u e3)
      have comm : ∀ u, (a.put oi.dst v).put oj.dst u = (a.put oj.dst u).put oi.dst v := fun u => Act.put_comm _ v u e2
      unfold opT at h1 ⊢
      simp only [hoj] at h1 ⊢
      rw [hwt] at h1
      split at h1
      · rename_i hw
        rw [if_pos hw]
        obtain ⟨u, hg, hk⟩ := h1
        refine ⟨u, good_to hx.symm (put_size _ _ _).symm hg, ?_⟩
        refine go _ _ (keep u) ?_
        rw [← comm]
        have : (d || ts j || ti) = (d || ti || ts j) := by cases d <;> cases ti <;> cases ts j <;> rfl
        rw [this]
        exact hk
      · rename_i hw
        rw [if_neg hw]
        refine go _ _ (keep undef) ?_
        rw [← comm]
        exact h1
theorem wpT_lex {tl : List Bool} (hs : Region.noSelect ops = true) : ∀ (l : List Oper) (tt : List Bool) (k : Nat) (listed : Array Bool) (a : Act) (d : Bool), (∀ j, l[j]? = ops[k + j]?) → (∀ j, tt.getD j false = tl.getD (k + j) false) →
    lexFrom md ops (fun i => ([] : List Kind).getD i .p) l.length k listed = true → lexT P ops CT QT l tt a d → wpT P md ops CT (fun i => tl.getD i false) QT l.length listed a d
  | [], _, _, _, _, _, _, _, hB, h => ⟨by simpa [lexFrom] using hB, h⟩
  | o :: l, tt, k, listed, a, d, hl, htt, hB, h => by
    have h0 : ops[k]? = some o := by simpa using (hl 0).symm
    have hk0 : tt.headD false = tl.getD k false := by
      have := htt 0
      cases tt with
      | nil => simpa using this
      | cons kd xs => simpa using this
    have htt' : ∀ j, tt.tail.getD j false = tl.getD (k + 1 + j) false := fun j => by
      have := htt (j + 1)
      cases tt with
      | nil => simpa [Nat.add_assoc, Nat.add_comm 1 j] using this
      | cons kd xs => simpa [Nat.add_assoc, Nat.add_comm 1 j] using this
    have hl' : ∀ j, l[j]? = ops[k + 1 + j]? := fun j => by have := hl (j + 1); simpa [Nat.add_assoc, Nat.add_comm 1 j] using this
    simp only [List.length_cons, lexFrom, Bool.and_eq_true] at hB
    obtain ⟨⟨hr, hf⟩, hB'⟩ := hB
    have hsel := Region.noSelect_spec hs
    have hr' : k ∈ Region.ready md ops listed := by simpa using hr
    have hW := free_waits h0 hf
    have hA := free_apart h0 hf
    simp only [lexT] at h
    by_cases hw : Region.wanted o (yielded ops a.tmps) = true
    · rw [if_pos hw, hk0] at h
      obtain ⟨v, hg, hn⟩ := h
      refine first_t (Y := fun a => Region.wanted o (yielded ops a.tmps) = true ∧ good P CT (tl.getD k false) o a v) (v := v) (D := dset md ops k) (tl.getD k false) h0 (fun _ _ hy he hsz hw => ⟨hw.trans hy.1, good_to he hsz hy.2⟩) hsel (fun K a d hy hk => ?_) l.length listed a d hW (fun j oj hj hne hjD hun => (hA j oj hj hne hjD hun).1) hr' ⟨hw, hg⟩ (wpT_lex hs l tt.tail (k + 1) _ _ _ hl' htt' hB' hn)
      unfold opT
      simp only [h0]
      rw [if_pos hy.1]
      exact ⟨v, hy.2, hk⟩
    · rw [if_neg hw] at h
      have hw' : Region.wanted o (yielded ops a.tmps) = false := by simpa using hw
      refine first_t (Y := fun a => Region.wanted o (yielded ops a.tmps) = false) (v := undef) (D := dset md ops k) false h0 (fun _ _ hy _ _ hw => hw.trans hy) hsel (fun K a d hy hk => ?_) l.length listed a d hW (fun j oj hj hne hjD hun => (hA j oj hj hne hjD hun).1) hr' hw' (wpT_lex hs l tt.tail (k + 1) _ _ _ hl' htt' hB' (by rw [Bool.or_false]; exact h))
      unfold opT
      simp only [h0]
      rw [if_neg (by rw [hy]; simp)]
      rw [Bool.or_false] at hk
      exact hk
/-- Class true of the late one, or false. -/
def Cany (CT : Bool → World → Prop) (w : World) : Prop := ∃ d, CT d w
theorem region_t {id : Nat} {Q : Exit → Act → World → Prop} {a : Act} {w : World} {l : List Oper} (CT : Bool → World → Prop) (tl : List Bool) (hm : P.follows .mixedOrders = true) (hB : lexB .any l.toArray [] = true)
    (hC : CT false w.drew) (h : Nonempty (In (Cany CT)) → lexT P l.toArray CT (fun a' d => ∀ w', CT d w' → Q .normal a' w') l tl a false) : (Code.region id l.toArray true).wp P Q a w := by
  simp only [lexB, Bool.and_eq_true] at hB
  refine wp_region_any hm (wpAny_of_T (CT := CT) (ts := fun i => tl.getD i false) (QT := fun a' d => ∀ w', CT d w' → Q .normal a' w') (fun a d w h hc => h w hc) _ _ _ false _ hC ?_)
  have := wpT_lex (CT := CT) (QT := fun a' d => ∀ w', CT d w' → Q .normal a' w') (md := .any) (tl := tl) hB.1 l tl 0 (Array.replicate l.toArray.size false) a false (by simp) (by simp) (by simpa using hB.2) (h ⟨⟨_, ⟨_, hC⟩⟩⟩)
  simpa using this
section
variable {o : Oper} {rest : List Oper} {tt : List Bool} {a : Act} {d : Bool}
theorem lexT_nil (h : QT a d) : lexT P ops CT QT [] tt a d := h
theorem lexT_one (v : Value) (hg : Region.wanted o (yielded ops a.tmps) = true → good P CT (tt.headD false) o a v) (hw : Region.wanted o (yielded ops a.tmps) = true) (h : lexT P ops CT QT rest tt.tail (a.put o.dst v) (d || tt.headD false)) : lexT P ops CT QT (o :: rest) tt a d := by
  simp only [lexT]
  rw [if_pos hw]
  exact ⟨v, hg hw, h⟩
/-- An operation met in every world of the classes. -/
theorem step_u (v : Value) (hw : Region.wanted o (yielded ops a.tmps) = true) (hg : ∀ (d : Bool) (w : World), CT d w → ∀ K : Act → World → Prop, On (∀ a' w', a' = a.put o.dst v → CT (d || tt.headD false) w' → K a' w') → wpList P ops (Exit.then K NoX) [o] a w) (h : lexT P ops CT QT rest tt.tail (a.put o.dst v) (d || tt.headD false)) : lexT P ops CT QT (o :: rest) tt a d :=
  lexT_one v (fun hw d w hc => wp_of_list hw (hg d w hc _ ⟨fun _ w' he hc' => ⟨he, hc'⟩⟩)) hw h
/-- The next n operations, all quiet. -/
theorem lexT_q (n : Nat) : ∀ (l : List Oper) (tt : List Bool) (a : Act) (d : Bool), ((tt.take n).all (· == false) && (l.take n).all (fun o => plainOp o.op)) = true →
    wpQuiet P ops (fun w' => ∃ m : In (Cany CT), w' = m.w) (fun a' => lexT P ops CT QT (l.drop n) (tt.drop n) a' d) (l.take n) a → lexT P ops CT QT l tt a d := by
  induction n with
  | zero => exact fun l tt a d _ h => h
  | succ n ih =>
    intro l tt a d hb h
    cases l with
    | nil => exact h
    | cons o l =>
      have h0 : tt.headD false = false := by
        cases tt with
        | nil => rfl
        | cons t tt =>
          simp only [List.take_succ_cons, List.all_cons, Bool.and_eq_true, beq_iff_eq] at hb
          exact hb.1.1
      have hdrop : tt.drop (n + 1) = tt.tail.drop n := by cases tt <;> simp
      have hb' : ((tt.tail.take n).all (· == false) && (l.take n).all (fun o => plainOp o.op)) = true := by
        cases tt with
        | nil =>
          simp only [List.take_succ_cons, List.all_cons, Bool.and_eq_true] at hb ⊢
          exact ⟨by simp, hb.2.2⟩
        | cons t tt =>
          simp only [List.take_succ_cons, List.all_cons, Bool.and_eq_true] at hb ⊢
          exact ⟨hb.1.2, hb.2.2⟩
      have hp : plainOp o.op = true := by
        simp only [List.take_succ_cons, List.all_cons, Bool.and_eq_true] at hb
        exact hb.2.1
      simp only [List.take_succ_cons, List.drop_succ_cons, wpQuiet] at h
      rw [hdrop] at h
      simp only [lexT]
      split
      · rename_i hw
        rw [if_pos hw] at h
        obtain ⟨v, hv, hk⟩ := still_of_quiet hp h
        refine ⟨v, fun d' w' hc => ?_, ?_⟩
        · refine wp_of_still (hv w' ⟨⟨w', ⟨_, hc⟩⟩, rfl⟩) ⟨rfl, ?_⟩
          rw [h0, Bool.or_false]
          exact hc
        · rw [h0, Bool.or_false]
          exact ih _ _ _ _ hb' hk
      · rename_i hw
        rw [if_neg hw] at h
        exact ih _ _ _ _ hb' h
end
end Go.Reg
