import Derived.RangeFuncNested
import Derived.RangeFuncBound
import Derived.RangeFuncCalls
import Derived.RangeFuncLeaves
import Derived.Shelf.Abstract
import Derived.Shelf.RegionOpen
import Derived.WalkKit
import Derived.OwnWalkIn
import Derived.TacticsInMore
import Derived.LoopNIn
import Derived.LoopIn
import Derived.Test.YtkfbegmfepehiaaZKx
namespace Go.Proofs.Ytkfbegmfepehiaa
set_option linter.unusedVariables false
set_option linter.unusedSimpArgs false
open Go.RowKit Go.Shelf Go.Proofs.YtkfbegmfepehiaaW.PrintWords Go.Proofs.YtkfbegmfepehiaaW.PrintLast Go.Proofs.YtkfbegmfepehiaaW.PrintMore
namespace Cell
variable {F : Fence} {n : Nat} {P : Program}
def SeqW {α : Type} (F : Fence) (n : Nat) (P : Program) (g : Nat) (lb : Array Value) (encs : α → Array Value) (b : Nat) (Kp : World → World → Prop) (Xp : List α → α → World → Prop) (S Sp : List α → Prop) (N : Nat) (w : World) : Prop :=
  ∀ (l : Nat) (J Jx : List α → World → Prop) (W : World), Below w.heap.size w W → (∀ s A B, J s A → Only b A B → J s B) → (∀ s A B, Jx s A → Only b A B → Jx s B) →
    (∀ pre x W1, J pre W1 → pre.length < N → Xp pre x W1 → YieldAt F (n - 1) P l (encs x) W1 fun e W' => (e = .returned (.bool true) ∧ J (pre ++ [x]) W' ∧ Kp W1 W') ∨ (e = .returned (.bool false) ∧ Jx (pre ++ [x]) W')) →
    J [] W →
    CallsIn F n P g (#[.func (.yield l) #[] #[]] ++ lb) W fun e W' => (∃ v, e = .returned v) ∧ ((∃ xs, S xs ∧ J xs W') ∨ (∃ pre, Sp pre ∧ Jx pre W'))
theorem wpIn_range_w {α : Type} {g : Operand} {ps : Array Tmp} {assign body : Code} {Q : Exit → Act → World → Prop} {a : Act} {w : World}
    (hro : F.round = none) (h1 : 1 ≤ n) {gf : Nat} {lb : Array Value} (hg : a.eval g = .func (.func gf) #[] lb) (hFg : F.fn gf) (eg : ∀ args w, (callFunc gf args).run P w = .ok (.enter gf args) w)
    {encs : α → Array Value} {b : Nat} (hb : b < w.heap.size) {Kp : World → World → Prop} {Xp : List α → α → World → Prop} {S Sp : List α → Prop} {N : Nat} (hseq : SeqW F (n - 1) P gf lb encs b Kp Xp S Sp N w)
    (hKt : ∀ {A B C : World}, Kp A B → Kp B C → Kp A C) (hKb : ∀ (W : World) (l : Nat) (o o' : Obj), w.heap.size ≤ l → W.heap[l]? = some o → o.isCells = false → o.isWalk = false → Kp W (W.putObj l o')) (hps : ∀ x, (encs x).size = ps.size)
    (I : List α → World → Prop) (Ix : Code → List α → World → Prop) (hI : OwnFrom w.heap.size I) (hIx : ∀ c, OwnFrom w.heap.size (Ix c)) (hIb : ∀ s A B, I s A → Only b A B → I s B) (hIxb : ∀ c s A B, Ix c s A → Only b A B → Ix c s B)
    (h0 : I [] w) (Ax : List α → α → Act → World → Prop) (hAx : ∀ pre x a', OwnFrom w.heap.size (fun (_ : Unit) W => Ax pre x a' W))
    (hassign : ∀ (l : Nat) (pre : List α) (x : α) (W : World) (K : Act → World → Prop), I pre W → Xp pre x W → (∀ a' W', KeepsFrom w.heap.size W W' → Kp W W' → I pre W' → Ax pre x a' W' → K a' W') →
      assign.wpIn (F.inRound l) (n - 1 - 1) P (Exit.then K (fun _ _ _ => False)) { tmps := (ps.zip (encs x)).foldl (fun t (p, v) => t.setIfInBounds p v) a.tmps, defers := [] } W)
    (hbody : ∀ (l : Nat) (pre : List α) (x : α) (a' : Act) (W : World), w.heap.size ≤ l → (∃ r, W.heap[l]? = some (.loop r)) → I pre W → Ax pre x a' W → pre.length < N → body.wpIn (F.inRound l) (n - 1 - 1) P (ownPostG w.heap.size Kp I Ix (pre ++ [x]) W) a' W)
    (hdone : ∀ (D : Nat) (xs : List α) (W : World), w.heap.size ≤ D → S xs → I xs W → W.heap[D]? = some (.deferred (some [])) → Q .normal { a with defers := { target := .collected D, args := #[] } :: a.defers } W)
    (hstop : ∀ (D : Nat) (c : Code) (pre : List α) (W : World), w.heap.size ≤ D → Sp pre → Ix c pre W → W.heap[D]? = some (.deferred (some [])) → c.wpIn F n P Q { a with defers := { target := .collected D, args := #[] } :: a.defers } W) :
    (Code.rangeFunc g ps assign body).wpIn F n P Q a w := by
  refine wpIn_rangeFunc (fun fn hfn => ?_)
  rw [hro]
  obtain ⟨z, hz⟩ : ∃ z, z = w.heap.size := ⟨_, rfl⟩
  obtain ⟨R, hR⟩ : ∃ R : LoopState → Option Code → Loop, R = fun st pe => { state := st, pending := pe, fn, tmps := a.tmps, params := ps, assign, body, defers := w.heap.size } := ⟨_, rfl⟩
  obtain ⟨V, hV⟩ : ∃ V, V = (w.alloc (.deferred (some []))).alloc (.loop (R .ready none)) := ⟨_, rfl⟩
  have vl : V.heap[z + 1]? = some (.loop (R .ready none)) := by
    have := World.alloc_heap_new (w.alloc (.deferred (some []))) (.loop (R .ready none))
    rw [World.size_alloc] at this
    rw [hV, hz]; exact this
  have vd : V.heap[z]? = some (.deferred (some [])) := by
    rw [hV, hz]; exact (Below.heap_alloc _ _ _ (by simp)).trans (World.alloc_heap_new w _)
  have vi : I [] V := by rw [hV]; exact hI.alloc _ (hI.alloc _ h0)
  have vb : Below w.heap.size w V := by
    rw [hV]; exact ((Below.refl _ w).alloc (Nat.le_refl _) _).alloc (by simp) _
  have two : ∀ {A B : World} {o : Loop}, Only b A B → A.heap[z + 1]? = some (.loop o) ∧ A.heap[z]? = some (.deferred (some [])) → B.heap[z + 1]? = some (.loop o) ∧ B.heap[z]? = some (.deferred (some [])) := fun ho hs =>
    ⟨(ho.block _ (blk_lt hs.1) (by omega)).trans hs.1, (ho.block _ (blk_lt hs.2) (by omega)).trans hs.2⟩
  refine ⟨z + 1, [{ target := .collected z, args := #[] }], V, { target := .fn (.func gf) lb, args := #[.func (.yield (z + 1)) #[] #[]] }, V, gf, #[.func (.yield (z + 1)) #[] #[]] ++ lb, V, ?_, ?_, ?_, ?_, fun _ => h1, ?_⟩
  · rw [hz, hV, hR]; exact run_enterLoop_outer _ _ _ _ _
  · simp only [resolve, hg]
    simp [go_sem]
  · intro f' hf'
    simp [Target.leads] at hf'
    subst hf'
    exact hFg
  · simp [invoke, go_sem, eg]
  refine (hseq (z + 1) (fun pre W => I pre W ∧ W.heap[z + 1]? = some (.loop (R .ready none)) ∧ W.heap[z]? = some (.deferred (some [])))
    (fun pre W => ∃ c, Ix c pre W ∧ W.heap[z + 1]? = some (.loop (R .done (some c))) ∧ W.heap[z]? = some (.deferred (some []))) V vb
    (fun s A B hs ho => ⟨hIb s A B hs.1 ho, two ho hs.2⟩) (fun s A B hs ho => by obtain ⟨c, hc, hs⟩ := hs; exact ⟨c, hIxb c s A B hc ho, two ho hs⟩) ?_ ⟨vi, vl, vd⟩).mono ?_
  · rintro pre x W ⟨hi, hl, hd⟩ hlen hxp
    have hy := run_yield (P := P) (args := encs x) hl (by rw [hR]; exact hps x)
    rw [hR] at hy
    refine ⟨fn, _, assign, body, hy, roundIn_of_wpIn hfn (hassign _ pre x W _ hi hxp (fun a' X hkX hpX hiX hax => ?_))⟩
    clear hy
    have xl := hkX.same _ _ (by omega) hl rfl
    have xd := hkX.same _ _ (by omega) hd rfl
    have xlt : z + 1 < X.heap.size := blk_lt xl
    refine ⟨_, run_beginRound xl (by rw [hR]), ?_⟩
    obtain ⟨Y, hY⟩ : ∃ Y, Y = X.putObj (z + 1) (.loop { R .ready none with state := .busy }) := ⟨_, rfl⟩
    rw [← hY]
    have yl : Y.heap[z + 1]? = some (.loop { R .ready none with state := .busy }) := by rw [hY]; exact World.putObj_heap_same xlt
    have yd : Y.heap[z]? = some (.deferred (some [])) := by rw [hY]; exact (World.putObj_heap_other (by omega)).trans xd
    have yk : Kp X Y := by rw [hY]; exact hKb _ _ _ _ (by omega) xl rfl rfl
    have yi : I pre Y := by rw [hY]; exact hI.putObj _ hiX (by omega) xl rfl
    have ya : Ax pre x a' Y := by rw [hY]; exact (hAx pre x a').putObj (s := ()) _ hax (by omega) xl rfl
    refine wpIn_mono (hbody _ pre x a' Y (by omega) ⟨_, yl⟩ yi ya hlen) ?_
    have shut : ∀ (jump : Option Code) (Z : World), KeepsFrom w.heap.size Y Z → ∃ Z', Z' = Z.putObj (z + 1) (.loop (R (if jump.isNone then .ready else .done) jump)) ∧ (Instr.endRound (z + 1) jump).run P Z = .ok (.bool jump.isNone) Z' ∧ (∃ o, Z.heap[z + 1]? = some (.loop o)) ∧ Z'.heap[z + 1]? = some (.loop (R (if jump.isNone then .ready else .done) jump)) ∧ Z'.heap[z]? = some (.deferred (some [])) := fun jump Z hkZ => by
      have zl := hkZ.same _ _ (by omega) yl rfl
      have zd := hkZ.same _ _ (by omega) yd rfl
      have hr := run_endRound (P := P) jump zl
      rw [hR] at hr
      refine ⟨_, rfl, by rw [hR]; exact hr, ⟨_, zl⟩, World.putObj_heap_same (blk_lt zl), (World.putObj_heap_other (by omega)).trans zd⟩
    intro e a3 Z hp
    have left : ∀ c, KeepsFrom w.heap.size Y Z ∧ Ix c (pre ++ [x]) Z → ∃ v Z', (Instr.endRound (z + 1) (some c)).run P Z = .ok v Z' ∧ ((Ending.returned v = .returned (.bool true) ∧ (I (pre ++ [x]) Z' ∧ Z'.heap[z + 1]? = some (.loop (R .ready none)) ∧ Z'.heap[z]? = some (.deferred (some []))) ∧ Kp W Z') ∨ (Ending.returned v = .returned (.bool false) ∧ ∃ c, Ix c (pre ++ [x]) Z' ∧ Z'.heap[z + 1]? = some (.loop (R .done (some c))) ∧ Z'.heap[z]? = some (.deferred (some [])))) := fun c hp => by
      obtain ⟨Z', e, hr, ⟨o, zl⟩, zl', zd'⟩ := shut (some c) Z hp.1
      exact ⟨_, _, hr, .inr ⟨rfl, c, by rw [e]; exact (hIx c).putObj _ hp.2 (by omega) zl rfl, zl', zd'⟩⟩
    cases e with
    | normal =>
      obtain ⟨hk3, hkp3, hi3⟩ := hp
      obtain ⟨Z', e, hr, ⟨o, zl⟩, zl', zd'⟩ := shut none Z hk3
      exact ⟨_, _, hr, .inl ⟨rfl, ⟨by rw [e]; exact hI.putObj _ hi3 (by omega) zl rfl, zl', zd'⟩, hKt hpX (hKt (hKt yk hkp3) (by rw [e]; exact hKb _ _ _ _ (by omega) zl rfl rfl))⟩⟩
    | ret => exact left .ret hp
    | exit id => exact left (.exit id) hp
    | goto t => exact left (.goto t) hp
    | panic ch => exact hp.elim
    | outgrown => exact hp.elim
  · rintro e X ⟨⟨v, rfl⟩, (⟨xs, hS, hi, hl, hd⟩ | ⟨pre, hSp, c, hi, hl, hd⟩)⟩
    · refine ⟨none, _, by have := run_endLoop (P := P) hl (by rw [hR]; simp); rw [hR] at this; exact this, hdone z xs _ (by omega) hS (hI.putObj _ hi (by omega) hl rfl) ((World.putObj_heap_other (by omega)).trans hd)⟩
    · refine ⟨some c, _, by have := run_endLoop (P := P) hl (by rw [hR]; simp); rw [hR] at this; exact this, hstop z c pre _ (by omega) hSp ((hIx c).putObj _ hi (by omega) hl rfl) ((World.putObj_heap_other (by omega)).trans hd)⟩
end Cell
end Go.Proofs.Ytkfbegmfepehiaa
