/- Part 19 of the proof of ChainWrites: lemmas alone. -/
import Derived.Test.YtclneeamemofoaaGreatZChainWritesP15
import Derived.Test.YtclneeamemofoaaGreatZChainWritesP6
import Derived.Test.YtclneeamemofoaaGreatZChainWritesP2
import Derived.Test.YtclneeamemofoaaGreatZChainWritesP7
import Derived.RangeFuncNested
import Derived.RangeFuncBound
import Derived.RangeFuncCalls
import Derived.RangeFuncLeaves
import Derived.Shelf.Abstract
import Derived.Shelf.RegionOpen
import Derived.WalkKit
import Derived.OwnWalkIn
import Derived.TacticsInMore
import Derived.LoopNIn
import Derived.LoopIn
import Derived.Maps.OwnIn
import Derived.KernelRfl
import Derived.Test.YtclneeamemofoaaGreatZChainWritesP8
section
namespace Go.Proofs.YtclneeamemofoaaGreat
set_option linter.unusedVariables false
set_option linter.unusedSimpArgs false
open Go.RowKit Go.Shelf Go.Proofs.YtclneeamemofoaaGreatW.PrintWords Go.Proofs.YtclneeamemofoaaGreatW.PrintLast Go.Proofs.YtclneeamemofoaaGreatW.PrintMore
namespace Cell
variable {F : Fence} {n : Nat} {P : Program}
def SeqW {α : Type} (F : Fence) (n : Nat) (P : Program) (g : Nat) (lb : Array Value) (encs : α → Array Value) (b : Nat) (Kp : World → World → Prop) (Xp : List α → α → World → Prop) (S Sp : List α → Prop) (N : Nat) (w : World) : Prop :=
  ∀ (l : Nat) (J Jx : List α → World → Prop) (W : World), Below w.heap.size w W → (∀ s A B, J s A → Only b A B → J s B) → (∀ s A B, Jx s A → Only b A B → Jx s B) →
    (∀ pre x W1, J pre W1 → pre.length < N → Xp pre x W1 → YieldAt F (n - 1) P l (encs x) W1 fun e W' => (e = .returned (.bool true) ∧ J (pre ++ [x]) W' ∧ Kp W1 W') ∨ (e = .returned (.bool false) ∧ Jx (pre ++ [x]) W')) →
    J [] W →
    CallsIn F n P g (#[.func (.yield l) #[] #[]] ++ lb) W fun e W' => (∃ v, e = .returned v) ∧ ((∃ xs, S xs ∧ J xs W') ∨ (∃ pre, Sp pre ∧ Jx pre W'))
theorem wpIn_range_w {α : Type} {g : Operand} {ps : Array Tmp} {assign body : Code} {Q : Exit → Act → World → Prop} {a : Act} {w : World}
    (hro : F.round = none) (h1 : 1 ≤ n) {gf : Nat} {lb : Array Value} (hg : a.eval g = .func (.func gf) #[] lb) (hFg : F.fn gf) (eg : ∀ args w, (callFunc gf args).run P w = .ok (.enter gf args) w)
    {encs : α → Array Value} {b : Nat} (hb : b < w.heap.size) {Kp : World → World → Prop} {Xp : List α → α → World → Prop} {S Sp : List α → Prop} {N : Nat} (hseq : SeqW F (n - 1) P gf lb encs b Kp Xp S Sp N w)
    (hKt : ∀ {A B C : World}, Kp A B → Kp B C → Kp A C) (hKb : ∀ (W : World) (l : Nat) (o o' : Obj), w.heap.size ≤ l → W.heap[l]? = some o → o.isCells = false → o.isWalk = false → Kp W (W.putObj l o')) (hps : ∀ x, (encs x).size = ps.size)
    (I : List α → World → Prop) (Ix : Code → List α → World → Prop) (hI : OwnFrom w.heap.size I) (hIx : ∀ c, OwnFrom w.heap.size (Ix c)) (hIb : ∀ s A B, I s A → Only b A B → I s B) (hIxb : ∀ c s A B, Ix c s A → Only b A B → Ix c s B)
    (h0 : I [] w) (Ax : List α → α → Act → World → Prop) (hAx : ∀ pre x a', OwnFrom w.heap.size (fun (_ : Unit) W => Ax pre x a' W))
    (hassign : ∀ (l : Nat) (pre : List α) (x : α) (W : World) (K : Act → World → Prop), I pre W → Xp pre x W → (∀ a' W', KeepsFrom w.heap.size W W' → Kp W W' → I pre W' → Ax pre x a' W' → K a' W') →
      assign.wpIn (F.inRound l) (n - 1 - 1) P (Exit.then K (fun _ _ _ => False)) { tmps := (ps.zip (encs x)).foldl (fun t (p, v) => t.setIfInBounds p v) a.tmps, defers := [] } W)
    (hbody : ∀ (l : Nat) (pre : List α) (x : α) (a' : Act) (W : World), w.heap.size ≤ l → (∃ r, W.heap[l]? = some (.loop r)) → I pre W → Ax pre x a' W → pre.length < N → body.wpIn (F.inRound l) (n - 1 - 1) P (ownPostG w.heap.size Kp I Ix (pre ++ [x]) W) a' W)
    (hdone : ∀ (D : Nat) (xs : List α) (W : World), w.heap.size ≤ D → S xs → I xs W → W.heap[D]? = some (.deferred (some [])) → Q .normal { a with defers := { target := .collected D, args := #[] } :: a.defers } W)
    (hstop : ∀ (D : Nat) (c : Code) (pre : List α) (W : World), w.heap.size ≤ D → Sp pre → Ix c pre W → W.heap[D]? = some (.deferred (some [])) → c.wpIn F n P Q { a with defers := { target := .collected D, args := #[] } :: a.defers } W) :
    (Code.rangeFunc g ps assign body).wpIn F n P Q a w := by
  refine wpIn_rangeFunc (fun fn hfn => ?_)
  rw [hro]
  obtain ⟨z, hz⟩ : ∃ z, z = w.heap.size := ⟨_, rfl⟩
  obtain ⟨R, hR⟩ : ∃ R : LoopState → Option Code → Loop, R = fun st pe => { state := st, pending := pe, fn, tmps := a.tmps, params := ps, assign, body, defers := w.heap.size } := ⟨_, rfl⟩
  obtain ⟨V, hV⟩ : ∃ V, V = (w.alloc (.deferred (some []))).alloc (.loop (R .ready none)) := ⟨_, rfl⟩
  have vl : V.heap[z + 1]? = some (.loop (R .ready none)) := by
    have := World.alloc_heap_new (w.alloc (.deferred (some []))) (.loop (R .ready none))
    rw [World.size_alloc] at this
    rw [hV, hz]; exact this
  have vd : V.heap[z]? = some (.deferred (some [])) := by
    rw [hV, hz]; exact (Below.heap_alloc _ _ _ (by simp)).trans (World.alloc_heap_new w _)
  have vi : I [] V := by rw [hV]; exact hI.alloc _ (hI.alloc _ h0)
  have vb : Below w.heap.size w V := by
    rw [hV]; exact ((Below.refl _ w).alloc (Nat.le_refl _) _).alloc (by simp) _
  have two : ∀ {A B : World} {o : Loop}, Only b A B → A.heap[z + 1]? = some (.loop o) ∧ A.heap[z]? = some (.deferred (some [])) → B.heap[z + 1]? = some (.loop o) ∧ B.heap[z]? = some (.deferred (some [])) := fun ho hs =>
    ⟨(ho.block _ (blk_lt hs.1) (by omega)).trans hs.1, (ho.block _ (blk_lt hs.2) (by omega)).trans hs.2⟩
  refine ⟨z + 1, [{ target := .collected z, args := #[] }], V, { target := .fn (.func gf) lb, args := #[.func (.yield (z + 1)) #[] #[]] }, V, gf, #[.func (.yield (z + 1)) #[] #[]] ++ lb, V, ?_, ?_, ?_, ?_, fun _ => h1, ?_⟩
  · rw [hz, hV, hR]; exact run_enterLoop_outer _ _ _ _ _
  · simp only [resolve, hg]
    simp [go_sem]
  · intro f' hf'
    simp [Target.leads] at hf'
    subst hf'
    exact hFg
  · simp [invoke, go_sem, eg]
  refine (hseq (z + 1) (fun pre W => I pre W ∧ W.heap[z + 1]? = some (.loop (R .ready none)) ∧ W.heap[z]? = some (.deferred (some [])))
    (fun pre W => ∃ c, Ix c pre W ∧ W.heap[z + 1]? = some (.loop (R .done (some c))) ∧ W.heap[z]? = some (.deferred (some []))) V vb
    (fun s A B hs ho => ⟨hIb s A B hs.1 ho, two ho hs.2⟩) (fun s A B hs ho => by obtain ⟨c, hc, hs⟩ := hs; exact ⟨c, hIxb c s A B hc ho, two ho hs⟩) ?_ ⟨vi, vl, vd⟩).mono ?_
  · rintro pre x W ⟨hi, hl, hd⟩ hlen hxp
    have hy := run_yield (P := P) (args := encs x) hl (by rw [hR]; exact hps x)
    rw [hR] at hy
    refine ⟨fn, _, assign, body, hy, roundIn_of_wpIn hfn (hassign _ pre x W _ hi hxp (fun a' X hkX hpX hiX hax => ?_))⟩
    clear hy
    have xl := hkX.same _ _ (by omega) hl rfl
    have xd := hkX.same _ _ (by omega) hd rfl
    have xlt : z + 1 < X.heap.size := blk_lt xl
    refine ⟨_, run_beginRound xl (by rw [hR]), ?_⟩
    obtain ⟨Y, hY⟩ : ∃ Y, Y = X.putObj (z + 1) (.loop { R .ready none with state := .busy }) := ⟨_, rfl⟩
    rw [← hY]
    have yl : Y.heap[z + 1]? = some (.loop { R .ready none with state := .busy }) := by rw [hY]; exact World.putObj_heap_same xlt
    have yd : Y.heap[z]? = some (.deferred (some [])) := by rw [hY]; exact (World.putObj_heap_other (by omega)).trans xd
    have yk : Kp X Y := by rw [hY]; exact hKb _ _ _ _ (by omega) xl rfl rfl
    have yi : I pre Y := by rw [hY]; exact hI.putObj _ hiX (by omega) xl rfl
    have ya : Ax pre x a' Y := by rw [hY]; exact (hAx pre x a').putObj (s := ()) _ hax (by omega) xl rfl
    refine wpIn_mono (hbody _ pre x a' Y (by omega) ⟨_, yl⟩ yi ya hlen) ?_
    have shut : ∀ (jump : Option Code) (Z : World), KeepsFrom w.heap.size Y Z → ∃ Z', Z' = Z.putObj (z + 1) (.loop (R (if jump.isNone then .ready else .done) jump)) ∧ (Instr.endRound (z + 1) jump).run P Z = .ok (.bool jump.isNone) Z' ∧ (∃ o, Z.heap[z + 1]? = some (.loop o)) ∧ Z'.heap[z + 1]? = some (.loop (R (if jump.isNone then .ready else .done) jump)) ∧ Z'.heap[z]? = some (.deferred (some [])) := fun jump Z hkZ => by
      have zl := hkZ.same _ _ (by omega) yl rfl
      have zd := hkZ.same _ _ (by omega) yd rfl
      have hr := run_endRound (P := P) jump zl
      rw [hR] at hr
      refine ⟨_, rfl, by rw [hR]; exact hr, ⟨_, zl⟩, World.putObj_heap_same (blk_lt zl), (World.putObj_heap_other (by omega)).trans zd⟩
    intro e a3 Z hp
    have left : ∀ c, KeepsFrom w.heap.size Y Z ∧ Ix c (pre ++ [x]) Z → ∃ v Z', (Instr.endRound (z + 1) (some c)).run P Z = .ok v Z' ∧ ((Ending.returned v = .returned (.bool true) ∧ (I (pre ++ [x]) Z' ∧ Z'.heap[z + 1]? = some (.loop (R .ready none)) ∧ Z'.heap[z]? = some (.deferred (some []))) ∧ Kp W Z') ∨ (Ending.returned v = .returned (.bool false) ∧ ∃ c, Ix c (pre ++ [x]) Z' ∧ Z'.heap[z + 1]? = some (.loop (R .done (some c))) ∧ Z'.heap[z]? = some (.deferred (some [])))) := fun c hp => by
      obtain ⟨Z', e, hr, ⟨o, zl⟩, zl', zd'⟩ := shut (some c) Z hp.1
      exact ⟨_, _, hr, .inr ⟨rfl, c, by rw [e]; exact (hIx c).putObj _ hp.2 (by omega) zl rfl, zl', zd'⟩⟩
    cases e with
    | normal =>
      obtain ⟨hk3, hkp3, hi3⟩ := hp
      obtain ⟨Z', e, hr, ⟨o, zl⟩, zl', zd'⟩ := shut none Z hk3
      exact ⟨_, _, hr, .inl ⟨rfl, ⟨by rw [e]; exact hI.putObj _ hi3 (by omega) zl rfl, zl', zd'⟩, hKt hpX (hKt (hKt yk hkp3) (by rw [e]; exact hKb _ _ _ _ (by omega) zl rfl rfl))⟩⟩
    | ret => exact left .ret hp
    | exit id => exact left (.exit id) hp
    | goto t => exact left (.goto t) hp
    | panic ch => exact hp.elim
    | outgrown => exact hp.elim
  · rintro e X ⟨⟨v, rfl⟩, (⟨xs, hS, hi, hl, hd⟩ | ⟨pre, hSp, c, hi, hl, hd⟩)⟩
    · refine ⟨none, _, by have := run_endLoop (P := P) hl (by rw [hR]; simp); rw [hR] at this; exact this, hdone z xs _ (by omega) hS (hI.putObj _ hi (by omega) hl rfl) ((World.putObj_heap_other (by omega)).trans hd)⟩
    · refine ⟨some c, _, by have := run_endLoop (P := P) hl (by rw [hR]; simp); rw [hR] at this; exact this, hstop z c pre _ (by omega) hSp ((hIx c).putObj _ hi (by omega) hl rfl) ((World.putObj_heap_other (by omega)).trans hd)⟩
end Cell
end Go.Proofs.YtclneeamemofoaaGreat
namespace Go.Proofs.YtclneeamemofoaaGreat
set_option linter.unusedVariables false
set_option linter.unusedSimpArgs false
open Go.RowKit Go.Shelf Go.Proofs.YtclneeamemofoaaGreatW.PrintWords Go.Proofs.YtclneeamemofoaaGreatW.PrintLast Go.Proofs.YtclneeamemofoaaGreatW.PrintMore
attribute [local go_sem] Oper.semAt_some min2_int min_two
namespace Cell
def KeptB (m b : Nat) (A B : World) : Prop := Below m A B ∧ B.heap[b]? = A.heap[b]?
theorem KeptB.trans {m b : Nat} {A B C : World} (h : KeptB m b A B) (k : KeptB m b B C) : KeptB m b A C := ⟨h.1.trans k.1, k.2.trans h.2⟩
theorem KeptB.putObj {m b : Nat} {w : World} (hm : m ≤ w.heap.size) (hb : b < w.heap.size) (W : World) (l : Nat) (o o' : Obj) (hl : w.heap.size ≤ l) (h : W.heap[l]? = some o) (h1 : o.isCells = false) (h2 : o.isWalk = false) : KeptB m b W (W.putObj l o') :=
  ⟨belowK_b hm W l o o' hl h h1 h2, World.putObj_heap_other (by omega)⟩
structure Part where
  i : Nat
  a : Option Addr
  c : Nat
  d : List Int
def Part.enc (x : Part) : Array Value := #[.int .i64 (x.i : Int), .slice x.a x.d.length x.c]
def PartOk (base : Nat) (text : List Int) (pre : List Part) (x : Part) (W : World) : Prop :=
  x.i = pre.length ∧ x.d = (text.drop (242 * pre.length)).take 242 ∧ Kd.R (Kd.int .u8) 5 W base (fun _ => True) (.slice x.a x.d.length x.c) x.d
set_option maxRecDepth 100000 in
set_option maxHeartbeats 4000000 in
theorem parts1_in (n : Nat) (hn : 1 ≤ n) (l Bs m n₀ : Nat) (text : List Int) (A : Option Addr) (c : Nat) (hc : text.length ≤ c) (hm : m ≤ Bs) (hBn : Bs < n₀) (hmn : m ≤ n₀) (hfew : text.length ≤ 262144) (J Jx : List Part → World → Prop)
    (W : World) (hW : n₀ ≤ W.heap.size) (hT : ∀ x, Below m W x → Kd.C (Kd.int .u8) x A text.length text)
    (hJ : ∀ s A B, J s A → Only Bs A B → J s B) (hJx : ∀ s A B, Jx s A → Only Bs A B → Jx s B)
    (hY : ∀ pre x W1, J pre W1 → pre.length < (text.length + 241) / 242 → PartOk n₀ text pre x W1 → YieldAt Fence.wide (n - 1) Tryz.prog l x.enc W1 fun e W' =>
      (e = .returned (.bool true) ∧ J (pre ++ [x]) W' ∧ KeptB m Bs W1 W') ∨ (e = .returned (.bool false) ∧ Jx (pre ++ [x]) W'))
    (hBs : W.heap[Bs]? = some (.cells #[.slice A text.length c] 39 (0, 0))) (h0 : J [] W) :
    CallsIn Fence.wide n Tryz.prog 72 #[.func (.yield l) #[] #[], .pointer (some ⟨Bs, 0, none⟩)] W fun e W' => (∃ v, e = .returned v) ∧
      ((∃ ys, ys.length = (text.length + 241) / 242 ∧ J ys W') ∨ (∃ pre, True ∧ Jx pre W')) := by
  have HT := Aside0.mk hT
  have HBS := Aside0.mk hBs
  have HY := Aside0.mk hY
  have HJ := Aside0.mk hJ
  have HJX := Aside0.mk hJx
  clear hT hBs hY hJ hJx
  refine callsIn_of_wp Tryz.func72 rfl trivial ?_ rfl
  simp only [Tryz.ntmps72, List.size_toArray, List.length_cons, List.length_nil, Nat.reduceAdd, Nat.reduceSub, Array.replicate_succ, Array.replicate_zero, List.push_toArray, List.append_toArray, List.nil_append, List.cons_append]
  gi_wp2
  gi_loopw [3] (fun i wr => ∃ (k : Nat) (pre : List Part) (rl c' : Nat) (A' : Option Addr), Aside0 (pre.length = k ∧ 242 * k ≤ text.length + 241 ∧ rl ≤ c' ∧ n₀ ≤ wr.heap.size ∧ rl = text.length - 242 * k) ∧ i = .int .i64 (k : Int) ∧ Aside0 (J pre wr) ∧ Aside0 (Below m W wr) ∧ Aside0 (wr.heap[Bs]? = some (.cells #[.slice A' rl c'] 39 (0, 0))) ∧ Aside0 (∀ x, Below m wr x → Kd.C (Kd.int .u8) x A' rl (text.drop (242 * k))))
    (fun i _ => (text.length + 242 - 242 * (intOf i)).toNat)
  case atStart => exact ⟨0, [], text.length, c, A, ⟨rfl, by simp, hc, hW, by omega⟩, by simp, ⟨h0⟩, ⟨Below.refl _ _⟩, HBS, ⟨fun x hx => by simpa using HT.out x hx⟩⟩
  case round =>
    obtain ⟨k, pre, rl, c', A', HA, rfl, HJP, HB, HX, HC⟩ := hrel
    have b0 : wr.cell? ⟨Bs, 0, none⟩ = some (.slice A' rl c') := cell_blk HX.out
    have bf : wr.frozen? ⟨Bs, 0, none⟩ = false := frozen_blk HX.out
    by_cases hz : rl = 0
    · subst hz
      gi_wp2
      go_end0
      exact ⟨⟨_, rfl⟩, .inl ⟨pre, by have := HA.out; omega, HJP.out⟩⟩
    · have hp : 0 < rl := by omega
      obtain ⟨a', rfl⟩ : ∃ a', A' = some a' := by obtain ⟨a', ha, _⟩ := (HC.out _ (Below.refl _ _)).2.2 hp; exact ⟨a', ha⟩
      have HDR := Aside0.mk (show (text.drop (242 * k)).length = rl by rw [List.length_drop]; have := HA.out; omega)
      by_cases h242 : 242 < rl
      · have hc2 : 242 ≤ c' := by have := HA.out; omega
        have hc3 : ¬ c' = 242 := by have := HA.out; omega
        have hpl : ((text.drop (242 * k)).take 242).length = 242 := by rw [List.length_take, HDR.out]; omega
        obtain ⟨d, hd⟩ : ∃ d, d = (text.drop (242 * k)).take 242 := ⟨_, rfl⟩
        rw [← hd] at hpl
        have HDL := Aside0.mk hpl
        have HD := Aside0.mk hd
        have HCD := Aside0.mk (show ∀ x, Below m wr x → Kd.C (Kd.int .u8) x (some a') d.length d from fun x hx => by
          have h1 := HC.out x hx
          rw [← HDR.out] at h1
          have := take_C h1 242 (by rw [HDR.out]; omega)
          rw [hpl, hd]
          first
          | exact this
          | (rw [List.take_of_length_le (by rw [HDR.out]; omega)] at this ⊢; exact this))
        clear hd hpl
        have hcl := clone8 (w := wr) a' c' d (HCD.out _ (Below.refl _ _)) (by rw [HDL.out]; omega)
        rw [HDL.out] at hcl
        gi_wp2
        refine ⟨trivial, ((callsIn_wide (n := n - 1)).2 hcl).mono ?_⟩
        clear hcl
        rintro e w1 ⟨v1, rfl, hr1, b1, hv1⟩
        obtain ⟨A1, c1, rfl⟩ := Kd.R_slice hr1
        have hn1 : n₀ ≤ wr.heap.size := by have := HA.out; omega
        obtain ⟨fn, tmps, assign, body, hy, hRd⟩ := HY.out pre ⟨k, A1, c1, d⟩ w1 (HJ.out _ _ _ HJP.out (Only.of_below b1)) (by have := HA.out; omega) ⟨HA.out.1.symm, by rw [HA.out.1]; exact HD.out, Kd.R_lower hr1 hn1⟩
        simp only [Part.enc] at hy
        have HX1 := Aside0.mk ((b1.block _ (blk_lt HX.out)).trans HX.out)
        clear hv1 hr1 b0 bf
        gi_wp2
        refine hRd.mono ?_
        clear hRd hy
        rintro e W3 (⟨rfl, hJ3, k3⟩ | ⟨rfl, hJx3⟩)
        · have hx3 := k3.2.trans HX1.out
          have b3 : W3.cell? ⟨Bs, 0, none⟩ = some (.slice (some a') rl c') := cell_blk hx3
          have bf3 : W3.frozen? ⟨Bs, 0, none⟩ = false := frozen_blk hx3
          have HX3 := Aside0.mk hx3
          have hpl1 : (pre ++ [(⟨k, A1, c1, d⟩ : Part)]).length = k + 1 := by rw [List.length_append, HA.out.1]; rfl
          clear hx3
          gi_wp2
          go_roundw
          case rel =>
            have hb4 : Below m wr (W3.setCell ⟨Bs, 0, none⟩ (.slice (some ⟨a'.block, a'.off + 242, none⟩) (rl - 242) (c' - 242))) := ((b1.mono (by omega)).trans k3.1).setCell hm _
            refine ⟨k + 1, pre ++ [⟨k, A1, c1, d⟩], rl - 242, c' - 242, (some ⟨a'.block, a'.off + 242, none⟩), ⟨hpl1, by have := HA.out; omega, by have := HA.out; omega, by simp only [World.size_setCell]; have := HA.out; have := b1.size; have := k3.1.size; omega, by have := HA.out; omega⟩, ?_, ⟨HJ.out _ _ _ hJ3 (Only.set _ _ _ _)⟩, ⟨HB.out.trans hb4⟩, ⟨?_⟩, ⟨fun y hy => ?_⟩⟩
            · congr 1
              have := HA.out
              unfold wrap64
              omega
            · rw [blk_set HX3.out 0 _]
              rfl
            · have h1 := HC.out y (hb4.trans hy)
              rw [← HDR.out] at h1
              have h2 := drop_C h1 242 (by rw [HDR.out]; omega)
              rw [HDR.out, List.drop_drop] at h2
              exact h2
          case measure =>
            have := HA.out
            rw [show wrap64 ((k : Int) + 1) = (k : Int) + 1 by unfold wrap64; omega]
            simp only [intOf]
            omega
        · gi_wp2
          refine bodyPost_ret (results_none rfl _ _ _) rfl ?_
          exact ⟨⟨_, rfl⟩, .inr ⟨_, trivial, hJx3⟩⟩
      · have hr2 : rl ≤ 242 := by omega
        have hc2 : rl ≤ c' := by have := HA.out; omega
        have hpl : ((text.drop (242 * k)).take 242).length = rl := by rw [List.length_take, HDR.out]; omega
        obtain ⟨d, hd⟩ : ∃ d, d = (text.drop (242 * k)).take 242 := ⟨_, rfl⟩
        rw [← hd] at hpl
        have HDL := Aside0.mk hpl
        have HD := Aside0.mk hd
        have HCD := Aside0.mk (show ∀ x, Below m wr x → Kd.C (Kd.int .u8) x (some a') d.length d from fun x hx => by
          have h1 := HC.out x hx
          rw [← HDR.out] at h1
          have := take_C h1 rl (by rw [HDR.out]; omega)
          rw [hpl, hd]
          first
          | exact this
          | (rw [List.take_of_length_le (by rw [HDR.out]; omega)] at this ⊢; exact this))
        clear hd hpl
        have hcl := clone8 (w := wr) a' c' d (HCD.out _ (Below.refl _ _)) (by rw [HDL.out]; omega)
        rw [HDL.out] at hcl
        gi_wp2
        refine ⟨trivial, ((callsIn_wide (n := n - 1)).2 hcl).mono ?_⟩
        clear hcl
        rintro e w1 ⟨v1, rfl, hr1, b1, hv1⟩
        obtain ⟨A1, c1, rfl⟩ := Kd.R_slice hr1
        have hn1 : n₀ ≤ wr.heap.size := by have := HA.out; omega
        obtain ⟨fn, tmps, assign, body, hy, hRd⟩ := HY.out pre ⟨k, A1, c1, d⟩ w1 (HJ.out _ _ _ HJP.out (Only.of_below b1)) (by have := HA.out; omega) ⟨HA.out.1.symm, by rw [HA.out.1]; exact HD.out, Kd.R_lower hr1 hn1⟩
        simp only [Part.enc] at hy
        have HX1 := Aside0.mk ((b1.block _ (blk_lt HX.out)).trans HX.out)
        clear hv1 hr1 b0 bf
        gi_wp2
        refine hRd.mono ?_
        clear hRd hy
        rintro e W3 (⟨rfl, hJ3, k3⟩ | ⟨rfl, hJx3⟩)
        · have hx3 := k3.2.trans HX1.out
          have b3 : W3.cell? ⟨Bs, 0, none⟩ = some (.slice (some a') rl c') := cell_blk hx3
          have bf3 : W3.frozen? ⟨Bs, 0, none⟩ = false := frozen_blk hx3
          have HX3 := Aside0.mk hx3
          have hpl1 : (pre ++ [(⟨k, A1, c1, d⟩ : Part)]).length = k + 1 := by rw [List.length_append, HA.out.1]; rfl
          clear hx3
          gi_wp2
          go_roundw
          case rel =>
            have hb4 : Below m wr (W3.setCell ⟨Bs, 0, none⟩ (.slice (if c' = rl then some a' else some (a'.add rl)) (0) (c' - rl))) := ((b1.mono (by omega)).trans k3.1).setCell hm _
            refine ⟨k + 1, pre ++ [⟨k, A1, c1, d⟩], 0, c' - rl, (if c' = rl then some a' else some (a'.add rl)), ⟨hpl1, by have := HA.out; omega, by have := HA.out; omega, by simp only [World.size_setCell]; have := HA.out; have := b1.size; have := k3.1.size; omega, by have := HA.out; omega⟩, ?_, ⟨HJ.out _ _ _ hJ3 (Only.set _ _ _ _)⟩, ⟨HB.out.trans hb4⟩, ⟨?_⟩, ⟨fun y hy => ?_⟩⟩
            · congr 1
              have := HA.out
              unfold wrap64
              omega
            · rw [blk_set HX3.out 0 _]
              rfl
            · exact ⟨by rw [List.length_drop]; have := HA.out; omega, by decide, fun h => absurd h (by decide)⟩
          case measure =>
            have := HA.out
            rw [show wrap64 ((k : Int) + 1) = (k : Int) + 1 by unfold wrap64; omega]
            simp only [intOf]
            omega
        · gi_wp2
          refine bodyPost_ret (results_none rfl _ _ _) rfl ?_
          exact ⟨⟨_, rfl⟩, .inr ⟨_, trivial, hJx3⟩⟩
end Cell
end Go.Proofs.YtclneeamemofoaaGreat
namespace Go.Proofs.YtclneeamemofoaaGreat
set_option linter.unusedVariables false
set_option linter.unusedSimpArgs false
open Go.RowKit Go.Shelf Go.Proofs.YtclneeamemofoaaGreatW.PrintWords Go.Proofs.YtclneeamemofoaaGreatW.PrintLast Go.Proofs.YtclneeamemofoaaGreatW.PrintMore
attribute [local go_sem] Oper.semAt_some min2_int min_two
namespace Cell
open Go.Num Go.Crc PCellGets PChain
abbrev Ce := PChain.S70
theorem R_append_in {α : Type} {F : Fence} {n : Nat} {P : Program} {ops : Array Oper} {rest : List Oper} {o : Oper} {a : Act} {Q : Exit → Act → World → Prop} (d : Kd α) {w0 W : World} (base : Nat) (hgd : o.guard = none) (s x : Operand) (t e : TypeId) (z : Value) (bytes : Nat)
    (ho : o.op = .call { callee := .builtin .append, args := #[s, x], argTypes := #[t, t] })
    (ht : P.underlying t = some (.slice e)) (hinfo : (P.info? e).map (fun i => (i.zero, i.size, i.bytes)) = some (some z, d.sz, bytes)) (hz : z.cells.size = d.sz) (hs0 : 0 < d.sz) (hb0 : 0 < bytes)
    (v : Value) (xs : List α) (p : α) (cs : List Value) (ok okp : Nat → Prop) (hs : a.eval s = v) (hx : a.eval x = .slice (some ⟨W.heap.size, 0, none⟩) 1 1) (hp : d.M W base okp p cs) (hokp : ∀ k, okp k → ok k ∧ some k ≠ v.ownBlock) (hfresh : ∀ k, W.heap.size ≤ k → ok k)
    (HO : d.R e W base ok v xs) (HB : Below base w0 W) (hbase : base ≤ W.heap.size) (hl : (xs.length + 1) * bytes ≤ 140737488355328)
    (h : ∀ v1 w1, d.R e w1 base ok v1 (xs ++ [p]) → Below base w0 w1 → W.grownBy w1 v.ownBlock → (v1.ownBlock = v.ownBlock ∨ ∃ b, v1.ownBlock = some b ∧ W.heap.size ≤ b) → wpListIn F n P ops Q rest (a.put o.dst v1) w1) :
    wpListIn F n P ops Q (o :: rest) a (W.alloc (.cells cs.toArray e)) := by
  obtain ⟨h0, inner, hown, hr⟩ := HO
  obtain ⟨i0, hi, hzz⟩ := Option.map_eq_some_iff.1 hinfo
  simp only [Prod.mk.injEq] at hzz
  obtain ⟨hz0, hz1, hz2⟩ := hzz
  have hlen : xs.length + 1 ≤ 140737488355328 := Nat.le_trans (Nat.le_mul_of_pos_right _ hb0) hl
  have hcl := d.K_len (d.K_of_M hp)
  have hc1 := d.K_one (d.K_of_M hp)
  refine wpListIn_append_own_at (W.alloc (.cells cs.toArray e)) hgd s x t ho base e i0 z d.sz bytes ht hi hz0 hz1 hz2 hz hs0 v xs.length inner hs (hown.alloc _) ⟨W.heap.size, 0, none⟩ 1 1 cs hx (by rw [hcl]; simp)
    (by simpa using World.news_of_block (cs := cs.toArray) (t := e) (fr := (0, 0)) (heap_alloc_new W (.cells cs.toArray e))) hc1 (by simp only [maxLen]; omega) hl (by simp; omega) ?_
  intro v1 w1 hown1 hg _ hat
  have hg1 : W.grownBy w1 v.ownBlock := World.grownBy.trans (World.grownBy_alloc W _ _) hg
  have hat1 : v1.ownBlock = v.ownBlock ∨ ∃ b, v1.ownBlock = some b ∧ W.heap.size ≤ b := by
    rcases hat with hat | hat
    · exact .inl hat
    · exact .inr ⟨_, hat, by simp⟩
  exact h v1 w1 (Kd.R_appended h0 hr hp hokp hfresh hown1 hg1 hat1) ((HB.alloc hbase _).grown hg (by simp; omega) (own_base hown)) hg1 hat1
def nextOf (places : List Int) (j : Nat) : Int := if j + 1 < places.length then places.getD (j + 1) 0 else 0
def pieceOf (text : List Int) (j : Nat) : List Int := (text.drop (242 * j)).take 242
def cellOf (owner : Int) (places text : List Int) (j : Nat) : Ce := ⟨owner, (j : Int), nextOf places j, pieceOf text j⟩
def okAt (owner : Int) (places text : List Int) (j : Nat) : Bool := cellOk owner (j : Int) (nextOf places j) (pieceOf text j) && decide (1 ≤ places.getD j 0 ∧ places.getD j 0 ≤ 65535)
def cellsAt (owner : Int) (places text : List Int) (k : Nat) : List Ce := (List.range k).map (cellOf owner places text)
theorem cellsAt_succ (owner : Int) (places text : List Int) (k : Nat) : cellsAt owner places text (k + 1) = cellsAt owner places text k ++ [cellOf owner places text k] := by simp [cellsAt, List.range_succ]
theorem cellsAt_len (owner : Int) (places text : List Int) (k : Nat) : (cellsAt owner places text k).length = k := by simp [cellsAt]
def needP (n : Nat) : Nat := (n + 241) / 242
def cutP (owner : Int) (places text : List Int) : List Ce × Int :=
  if 262144 < text.length then ([], 3) else if places.length = 0 ∨ places.length ≠ needP text.length then ([], 1)
  else if (List.range places.length).all (okAt owner places text) = true then (cellsAt owner places text places.length, 0) else ([], 1)
theorem need_plain (n : Nat) (h : n ≤ 100000000) : cell_Need.f (n : Int) = some (needP n : Int) := by
  unfold cell_Need.f needP
  by_cases h0 : (n : Int) ≤ 0
  · rw [if_pos h0]; congr 1; omega
  · rw [if_neg h0]
    congr 1
    rw [show wrap64 ((n : Int) - 1) = (n : Int) - 1 by unfold wrap64; omega, Int.tdiv_eq_ediv_of_nonneg (by omega)]
    have h3 : 0 ≤ ((n : Int) - 1) / 242 ∧ ((n : Int) - 1) / 242 ≤ 100000000 := by omega
    rw [show wrap64 (((n : Int) - 1) / 242) = ((n : Int) - 1) / 242 by unfold wrap64; omega]
    unfold wrap64
    omega
theorem need_any {w : World} (n : Nat) (h : n ≤ 100000000) : Calls Tryz.prog 43 #[.int .i64 (n : Int)] w fun e w' => e = .returned (.int .i64 (needP n : Int)) ∧ Below w.heap.size w w' :=
  (cell_Need.calls _ _ w (need_plain n h)).mono (fun e w' hh => ⟨hh.1, by first | exact hh.2 | exact hh.2.below⟩)
theorem cells_kept {W W' : World} {row : Option Nat} {B t : Nat} {cs : Array Value} (h : W.heap[B]? = some (.cells cs t (0, 0))) (hg : W.grownBy W' row) (hr : ∀ r, row = some r → ∃ o : Obj, W.heap[r]? = some o ∧ o.isCells = false) : W'.heap[B]? = some (.cells cs t (0, 0)) :=
  (hg.block B (blk_lt h) (fun e => by obtain ⟨o, ho, hc⟩ := hr B e.symm; rw [h] at ho; cases ho; cases hc)).trans h
theorem R_keptrow {α : Type} {d : Kd α} {e base : Nat} {ok : Nat → Prop} {v : Value} {xs : List α} {X Y : World} {row : Option Nat} (h : d.R e X base ok v xs) (hg : X.grownBy Y row) (hr : ∀ r, row = some r → ∃ o : Obj, X.heap[r]? = some o ∧ o.isCells = false) : d.R e Y base ok v xs :=
  Kd.R_mono (Kd.R_step (Kd.R_bound h) (fun k hk hlt => hg.block k hlt (fun e => by obtain ⟨o, ho, hc⟩ := hr k e.symm; obtain ⟨_, _, _, q, _, cells, hcl⟩ := hk; rw [hcl] at ho; cases ho; cases hc))) (fun k hk => hk.1)
theorem keeps_below {W W' : World} (h : Below W.heap.size W W') : KeepsOthers W W' := ⟨h.size, fun k o ho _ => (h.block k (blk_lt ho)).trans ho⟩
theorem partsv_any {w : World} (A : Option Addr) (len cap : Nat) :
    Calls Tryz.prog 47 #[.slice A len cap] w fun e w' => e = .returned (.func (.func 72) #[] #[.pointer (some ⟨w.heap.size, 0, none⟩)]) ∧ w' = w.alloc (.cells #[.slice A len cap] 39) := by
  go_enter Tryz.func47, Tryz.ntmps47
  go_wp2_with fail
  go_ret
  exact ⟨rfl, rfl⟩
set_option maxRecDepth 100000 in
set_option maxHeartbeats 8000000 in
theorem cut_R {w : World} (owner : Int) (AP : Option Addr) (cp : Nat) (places : List Int) (A : Option Addr) (c : Nat) (text : List Int) (hP : Kd.C (Kd.int .i64) w AP places.length places) (hT : Kd.C (Kd.int .u8) w A text.length text) (hcp : places.length ≤ cp) (hct : text.length ≤ c) (hfew : text.length ≤ 100000) (hfp : places.length ≤ 100000) (hb : ∀ x ∈ text, 0 ≤ x ∧ x ≤ 255) :
    Calls Tryz.prog 19 #[.int .i64 owner, .slice AP places.length cp, .slice A text.length c] w fun e w' => ∃ A' c', e = .returned (.tuple #[.slice A' (cutP owner places text).1.length c', .int .i64 (cutP owner places text).2]) ∧ (cutP owner places text).1.length ≤ c' ∧ (∀ x, Below w'.heap.size w' x → Kd.C PChain.k70 x A' (cutP owner places text).1.length (cutP owner places text).1) ∧ Below w.heap.size w w' ∧ Kd.R PChain.k70 70 w' w.heap.size (fun _ => True) (.slice A' (cutP owner places text).1.length c') (cutP owner places text).1 := by
  have HP := Aside0.mk hP
  have HT := Aside0.mk hT
  have HBY := Aside0.mk hb
  obtain ⟨R, hR⟩ : ∃ R, R = cutP owner places text := ⟨_, rfl⟩
  rw [← hR]
  have HRR := Aside0.mk hR
  have hro : Fence.wide.round = none := rfl
  have hf2 : Fence.wide.fn 72 := trivial
  have h1 : 1 ≤ 4 := by omega
  clear hP hT hb hR
  refine (callsIn_wide (n := 4)).1 ?_
  refine callsIn_of_wp_marks Tryz.func19 rfl trivial ?_ hro
  simp only [Tryz.ntmps19, List.size_toArray, List.length_cons, List.length_nil, Nat.reduceAdd, Nat.reduceSub, Array.replicate_succ, Array.replicate_zero, List.push_toArray, List.append_toArray, List.nil_append, List.cons_append]
  gi_wp2
  obtain ⟨W0, hW0⟩ : ∃ W0, W0 = ((((w.alloc (.cells #[.int .i64 owner] 3)).alloc (.cells #[.slice AP places.length cp] 38)).alloc (.cells #[.slice none 0 0] 64)).alloc (.cells #[.int .i64 0] 25)) := ⟨_, rfl⟩
  have x3 := Boxed.new w 3 (.int .i64 owner)
  have x4 := Boxed.new (w.alloc (.cells #[.int .i64 owner] 3)) 38 (.slice AP places.length cp)
  have x6 := Boxed.new ((w.alloc (.cells #[.int .i64 owner] 3)).alloc (.cells #[.slice AP places.length cp] 38)) 64 (.slice none 0 0)
  have x7 := Boxed.new (((w.alloc (.cells #[.int .i64 owner] 3)).alloc (.cells #[.slice AP places.length cp] 38)).alloc (.cells #[.slice none 0 0] 64)) 25 (.int .i64 0)
  replace x3 := ((x3.alloc (.cells #[.slice AP places.length cp] 38)).alloc (.cells #[.slice none 0 0] 64)).alloc (.cells #[.int .i64 0] 25)
  replace x4 := (x4.alloc (.cells #[.slice none 0 0] 64)).alloc (.cells #[.int .i64 0] 25)
  replace x6 := x6.alloc (.cells #[.int .i64 0] 25)
  simp only [World.size_alloc] at x3 x4 x6 x7
  rw [← hW0] at x3 x4 x6 x7 ⊢
  have hB0 : Below w.heap.size w W0 := by
    rw [hW0]
    exact ((((Below.refl _ w).alloc (Nat.le_refl _) _).alloc (by simp) _).alloc (by simp; omega) _).alloc (by simp; omega) _
  have hs0 : W0.heap.size = w.heap.size + 1 + 1 + 1 + 1 := by rw [hW0]; simp
  clear hW0
  obtain ⟨z, hz⟩ : ∃ z, z = w.heap.size := ⟨_, rfl⟩
  rw [← hz] at x3 x4 x6 x7 hB0 hs0 ⊢
  have X3 := Aside0.mk x3
  have X4 := Aside0.mk x4
  have X6 := Aside0.mk x6
  have X7 := Aside0.mk x7
  have HB0 := Aside0.mk hB0
  have HS0 := Aside0.mk hs0
  have HZ := Aside0.mk hz
  have m4 : ∀ m : Go.Reg.In (Below W0.heap.size W0), m.w.cell? ⟨z + 1, 0, none⟩ = some (.slice AP places.length cp) := fun m => (m.h.cell (p := ⟨z + 1, 0, none⟩) X4.out.lt).trans X4.out.cell
  clear x3 x4 x6 x7 hB0 hs0 hz
  by_cases h0 : places.length = 0
  · have hd0 : decide ((places.length : Int) = 0) = true := decide_eq_true (by omega)
    refine wpIn_wide.2 ?_
    refine Go.Rg.region (Below W0.heap.size W0) (fun x y => Below x.heap.size x y) (fun x => Below.refl _ x) (fun x y z h k => h.trans (k.mono h.size)) [.s, .s, .s, .s, .s, .s, .s, .s, .v, .s, .s, .s] (by kernel_rfl) (by kernel_rfl) (below_drew1 (Below.refl _ _)) (fun ne => ?_)
    refine Go.Rg.lex_q 8 _ _ _ _ _ (by rfl) ?_; simp only [List.take_succ_cons, List.take_zero, List.drop_succ_cons, List.drop_zero]; (repeat (go_big_quiet_step (rfl))); refine wpQuiet_nil ?_
    refine Go.Rg.step_v (fun K' hK => ?_)
    go_wp2_with fail
    refine hK.out _ _ (below_drew1 (Below.refl _ _)) (Below.refl _ _) ?_
    clear hK K'
    try simp only [Act.put, List.setIfInBounds_toArray, List.set_cons_succ, List.set_cons_zero]
    refine Go.Rg.lex_q 3 _ _ _ _ _ (by rfl) ?_; simp only [List.take_succ_cons, List.take_zero, List.drop_succ_cons, List.drop_zero]; (repeat (go_big_quiet_step (rfl))); refine wpQuiet_nil ?_
    refine Go.Rg.lex_nil ?_
    obtain ⟨V, hV⟩ : ∃ V, V = W0.drew := ⟨_, rfl⟩
    have hbV : Below W0.heap.size W0 V := by rw [hV]; exact below_drew1 (Below.refl _ _)
    rw [← hV]
    clear hV
    have HB5 := Aside0.mk hbV
    clear hbV
    have g6 : V.heap[z + 1 + 1]? = some (.cells #[.slice none 0 0] 64 (0, 0)) := (HB5.out.block _ X6.out.lt).trans X6.out
    have g7 : V.heap[z + 1 + 1 + 1]? = some (.cells #[.int .i64 0] 25 (0, 0)) := (HB5.out.block _ X7.out.lt).trans X7.out
    have G6 := Aside0.mk g6
    have G7 := Aside0.mk g7
    have c6 : V.cell? ⟨z + 1 + 1, 0, none⟩ = some (.slice none 0 0) := cell_blk g6
    have c7 : V.cell? ⟨z + 1 + 1 + 1, 0, none⟩ = some (.int .i64 0) := cell_blk g7
    have f6 : V.frozen? ⟨z + 1 + 1, 0, none⟩ = false := frozen_blk g6
    have f7 : V.frozen? ⟨z + 1 + 1 + 1, 0, none⟩ = false := frozen_blk g7
    clear g6 g7
    have HQ := Aside0.mk (show R = ([], 1) by rw [HRR.out]; unfold cutP; rw [if_neg (by omega), if_pos (.inl h0)])
    gi_wp2
    refine ⟨.tuple #[.slice none 0 0, .int .i64 1], ?_, none, 0, by rw [HQ.out]; rfl, by rw [HQ.out]; exact Nat.le_refl _, fun x hx => by rw [HQ.out]; exact ⟨rfl, by decide, fun h => absurd h (by decide)⟩, ?_, by rw [HQ.out]; exact Kd.R_nil _ _ _ _ _⟩
    · have e6 := blk_set G6.out 0 (.slice none 0 0)
      have e7 := blk_set G7.out 0 (.int .i64 1)
      have e6' : ((V.setCell ⟨z + 1 + 1, 0, none⟩ (.slice none 0 0)).setCell ⟨z + 1 + 1 + 1, 0, none⟩ (.int .i64 1)).cell? ⟨z + 1 + 1, 0, none⟩ = some (.slice none 0 0) := by
        exact (cell_blk ((Below.heap_setCell _ _ _ _ (by simp)).trans e6))
      have e7' : ((V.setCell ⟨z + 1 + 1, 0, none⟩ (.slice none 0 0)).setCell ⟨z + 1 + 1 + 1, 0, none⟩ (.int .i64 1)).cell? ⟨z + 1 + 1 + 1, 0, none⟩ = some (.int .i64 1) := by
        exact (cell_blk (blk_set (show (V.setCell ⟨z + 1 + 1, 0, none⟩ (.slice none 0 0)).heap[z + 1 + 1 + 1]? = _ from (Below.heap_setCell _ _ _ _ (by simp)).trans G7.out) 0 _))
      simp [results, Tryz.f19, go_sem, e6', e7']
    · rw [← HZ.out]
      exact ((HB0.out.trans (HB5.out.mono (by have := HS0.out; omega))).setCell (by simp; omega) _).setCell (by simp; omega) _
  · have hd0 : decide ((places.length : Int) = 0) = false := decide_eq_false (by omega)
    have hd4 : ((places.length : Int) == 0) = false := beq_eq_false_iff_ne.2 (by omega)
    refine wpIn_wide.2 ?_
    refine Go.Rg.region (Below W0.heap.size W0) (fun x y => Below x.heap.size x y) (fun x => Below.refl _ x) (fun x y z h k => h.trans (k.mono h.size)) [.s, .s, .s, .s, .s, .s, .s, .s, .w, .s, .s, .s] (by kernel_rfl) (by kernel_rfl) (below_drew1 (Below.refl _ _)) (fun ne => ?_)
    refine Go.Rg.lex_q 8 _ _ _ _ _ (by rfl) ?_; simp only [List.take_succ_cons, List.take_zero, List.drop_succ_cons, List.drop_zero]; (repeat (go_big_quiet_step (rfl))); refine wpQuiet_nil ?_
    refine Go.Rg.step_w (by rfl) (fun K' hK => ?_)
    go_wp2_with fail
    have HB1 := Aside0.mk (below_drew1 (Below.refl W0.heap.size W0))
    refine (need_any text.length (by omega)).mono ?_
    rintro e w5 ⟨rfl, b5⟩
    go_wp2_with fail
    refine hK.out _ _ (below_steps HB1.out b5) (by exact b5) ?_
    have HB5 := Aside0.mk (below_steps HB1.out b5)
    clear hK K' b5
    try simp only [Act.put, List.setIfInBounds_toArray, List.set_cons_succ, List.set_cons_zero]
    refine Go.Rg.lex_q 3 _ _ _ _ _ (by rfl) ?_; simp only [List.take_succ_cons, List.take_zero, List.drop_succ_cons, List.drop_zero]; (repeat (go_big_quiet_step (rfl))); refine wpQuiet_nil ?_
    refine Go.Rg.lex_nil ?_
    have k6 := X6.out
    have g6 : w5.heap[z + 1 + 1]? = some (.cells #[.slice none 0 0] 64 (0, 0)) := (HB5.out.block _ X6.out.lt).trans X6.out
    have g7 : w5.heap[z + 1 + 1 + 1]? = some (.cells #[.int .i64 0] 25 (0, 0)) := (HB5.out.block _ X7.out.lt).trans X7.out
    have G6 := Aside0.mk g6
    have G7 := Aside0.mk g7
    have c6 : w5.cell? ⟨z + 1 + 1, 0, none⟩ = some (.slice none 0 0) := cell_blk g6
    have c7 : w5.cell? ⟨z + 1 + 1 + 1, 0, none⟩ = some (.int .i64 0) := cell_blk g7
    have f6 : w5.frozen? ⟨z + 1 + 1, 0, none⟩ = false := frozen_blk g6
    have f7 : w5.frozen? ⟨z + 1 + 1 + 1, 0, none⟩ = false := frozen_blk g7
    clear g6 g7 k6
    by_cases hn : places.length = needP text.length
    · have hne : ((places.length : Int) != (needP text.length : Int)) = false := by rw [hn]; simp
      have HN := Aside0.mk hn
      clear hn
      gi_wp2
      refine ⟨trivial, ((callsIn_wide (n := 3)).2 (partsv_any A text.length c)).mono ?_⟩
      rintro e w' ⟨rfl, rfl⟩
      gi_wp2
      have yo := Boxed.new w5 64 (.slice none 0 0)
      replace yo := yo.alloc (.cells #[.slice A text.length c] 39)
      have yt := Boxed.new (w5.alloc (.cells #[.slice none 0 0] 64)) 39 (.slice A text.length c)
      obtain ⟨W1, hW1⟩ : ∃ W1, W1 = (w5.alloc (.cells #[.slice none 0 0] 64)).alloc (.cells #[.slice A text.length c] 39) := ⟨_, rfl⟩
      simp only [World.size_alloc] at yt ⊢
      rw [← hW1] at yo yt ⊢
      have hs1 : W1.heap.size = w5.heap.size + 1 + 1 := by rw [hW1]; simp
      have hb1 : Below w5.heap.size w5 W1 := by rw [hW1]; exact ((Below.refl _ _).alloc (Nat.le_refl _) _).alloc (by simp) _
      clear hW1
      obtain ⟨ob, hob⟩ : ∃ ob, ob = w5.heap.size := ⟨_, rfl⟩
      rw [← hob] at yo yt hs1 hb1 ⊢
      obtain ⟨n₀, hn0⟩ : ∃ n₀, n₀ = W1.heap.size := ⟨_, rfl⟩
      have HOB := Aside0.mk hob
      have HBW1 := Aside0.mk hb1
      have HS1 := Aside0.mk hs1
      have HN0 := Aside0.mk hn0
      have YO := Aside0.mk yo
      have YT := Aside0.mk yt
      have HNS := Aside0.mk (show n₀ = ob + 1 + 1 by rw [hn0, hs1])
      have HZO := Aside0.mk (show z + 4 ≤ ob by have := HS0.out; have := HB5.out.size; omega)
      clear hob hb1 hs1 yo yt hn0
      refine wpIn_range_w hro h1 (gf := 72) (lb := #[.pointer (some ⟨ob + 1, 0, none⟩)]) rfl hf2 (enters_of Tryz.func72 (by kernel_rfl) rfl) (encs := Part.enc) (b := ob + 1) YT.out.lt (Kp := KeptB z (ob + 1)) (Xp := PartOk n₀ text) (S := fun ys => ys.length = (text.length + 241) / 242) (Sp := fun _ => True) (N := (text.length + 241) / 242)
        (fun l J Jx W hW hJ hJx hY h0 => parts1_in 3 (by omega) l (ob + 1) z n₀ text A c hct (by have := HZO.out; omega) (by have := HNS.out; omega) (by have := HZO.out; have := HNS.out; omega) (by omega) J Jx W (by have := hW.size; have := HN0.out; omega) ?hT hJ hJx hY ((hW.block _ YT.out.lt).trans YT.out) h0)
        KeptB.trans (KeptB.putObj (by have := HN0.out; have := HZO.out; have := HNS.out; omega) YT.out.lt) (fun _ => rfl)
        (fun pre W => ((∃ v, Boxed W ob 64 v ∧ Kd.R PChain.k70 70 W n₀ (fun k => n₀ ≤ k) v (cellsAt owner places text pre.length)) ∧ (n₀ ≤ W.heap.size ∧ ∀ j, j < pre.length → okAt owner places text j = true)) ∧ Below ob w5 W)
        (fun c pre W => (c = .ret ∧ Boxed W (z + 1 + 1) 64 (.slice none 0 0) ∧ Boxed W (z + 1 + 1 + 1) 25 (.int .i64 1) ∧ ∃ j, j < places.length ∧ okAt owner places text j = false) ∧ Below z W0 W)
        ?hI ?hIx ?hIb ?hIxb ?h0 (fun pre x a' W => (x.i = pre.length ∧ x.d = pieceOf text pre.length ∧ Kd.R (Kd.int .u8) 5 W n₀ (fun k => n₀ ≤ k) (.slice x.a x.d.length x.c) x.d) ∧ a' = { tmps := #[.int .i64 owner, .slice AP places.length cp, .slice A text.length c, .pointer (some ⟨z, 0, none⟩), .pointer (some ⟨z + 1, 0, none⟩), undef, .pointer (some ⟨z + 1 + 1, 0, none⟩), .pointer (some ⟨z + 1 + 1 + 1, 0, none⟩), .pointer (some ⟨ob, 0, none⟩), .int .i64 (x.i : Int), .slice x.a x.d.length x.c, undef, .bool (decide ((262144 : Int) < text.length)), .slice A text.length c, .int .i64 text.length, .bool (decide ((262144 : Int) < text.length)), .bool false, .slice AP places.length cp, .int .i64 places.length, .bool false, .bool false, .slice AP places.length cp, .int .i64 places.length, .slice A text.length c, .int .i64 text.length, .int .i64 (needP text.length : Int), .bool false, .bool false, .slice A text.length c, .func (.func 72) #[] #[.pointer (some ⟨ob + 1, 0, none⟩)], .int .i64 (x.i : Int), .slice x.a x.d.length x.c, undef, undef, undef, undef, undef, undef, undef, undef, undef, undef, undef, undef, undef, undef, undef, undef, undef, undef, undef, undef, undef, undef, undef, undef, undef, undef, undef, undef, undef, undef, undef, undef, undef, undef, undef, undef, undef, undef], defers := [] }) ?hAx ?assign ?body ?done ?stop
      case hT =>
        exact fun x hx => by
          refine Kd.C_below HT.out ?_
          rw [← HZ.out]
          have h1 := HZO.out
          have h2 := HS0.out
          have h3 := HS1.out
          exact ((HB0.out.trans (HB5.out.mono (by omega))).trans (HBW1.out.mono (by omega))).trans ((hW.mono (by omega)).trans hx)
      case hI => exact OwnFrom.and (fun s X Y row hs hg hr => ⟨by obtain ⟨v, h1, h2⟩ := hs.1; exact ⟨v, cells_kept h1 hg (fun r e => (hr r e).2), R_keptrow h2 hg (fun r e => (hr r e).2)⟩, Nat.le_trans hs.2.1 hg.size, hs.2.2⟩) (ownFrom_below (by rw [HOB.out]; exact Nat.le_refl _) (by have := HS1.out; omega))
      case hIx => exact fun c => OwnFrom.and (fun s X Y row hs hg hr => ⟨hs.1, cells_kept hs.2.1 hg (fun r e => (hr r e).2), cells_kept hs.2.2.1 hg (fun r e => (hr r e).2), hs.2.2.2⟩) (ownFrom_below (by have := HS0.out; omega) (by have := HS1.out; have := HZO.out; omega))
      case hIb =>
        exact fun s X Y hs ho => by
          obtain ⟨⟨⟨v, h1, h2⟩, h3, h4⟩, h5⟩ := hs
          have h6 := HNS.out
          exact ⟨⟨⟨v, (ho.block _ (blk_lt h1) (by omega)).trans h1, Kd.R_step h2 (fun k hk hlt => ho.block k hlt (by omega))⟩, Nat.le_trans h3 ho.size, h4⟩, h5.trans (ho.below (by omega) (by omega))⟩
      case hIxb =>
        exact fun c s X Y hs ho => by
          obtain ⟨⟨h0, h1, h2, h3⟩, h5⟩ := hs
          have h6 := HZO.out
          exact ⟨⟨h0, (ho.block _ (blk_lt h1) (by omega)).trans h1, (ho.block _ (blk_lt h2) (by omega)).trans h2, h3⟩, h5.trans (ho.below (by omega) (by have := blk_lt h2; omega))⟩
      case h0 => exact ⟨⟨⟨_, YO.out, Kd.R_nil _ _ _ _ _⟩, by rw [HN0.out]; exact Nat.le_refl _, fun j hj => absurd hj (by simp)⟩, HBW1.out⟩
      case hAx => exact fun pre x a' _ X Y row hs hg hr => ⟨⟨hs.1.1, hs.1.2.1, R_keptrow hs.1.2.2 hg (fun r e => (hr r e).2)⟩, hs.2⟩
      case assign =>
        rintro l pre x W K hI hX hK
        have HX := Aside0.mk hX
        clear hX
        simp only [Part.enc]
        gi_wp2
        exact hK _ _ (KeepsFrom.refl _ _) ⟨Below.refl _ _, rfl⟩ hI ⟨⟨HX.out.1, HX.out.2.1, R_bnd HX.out.2.2⟩, rfl⟩
      case body =>
        rintro l pre x a' W hl ⟨rr, hr⟩ ⟨⟨⟨v, hbv, hrv⟩, hsz, hok⟩, hbl⟩ ⟨⟨hx1, hx2, hx3⟩, rfl⟩ hlt
        have HX1 := Aside0.mk hx1
        have HX2 := Aside0.mk hx2
        have HX3 := Aside0.mk hx3
        have HBV := Aside0.mk hbv
        have HRV := Aside0.mk hrv
        have HSZ := Aside0.mk hsz
        have HOK := Aside0.mk hok
        have HBL := Aside0.mk hbl
        have HLT := Aside0.mk hlt
        have HR := Aside0.mk hr
        have hx3w : Boxed W z 3 (.int .i64 owner) := (hbl.block _ (by have := HZO.out; omega)).trans ((HB5.out.block _ X3.out.lt).trans X3.out)
        have hx4w : Boxed W (z + 1) 38 (.slice AP places.length cp) := (hbl.block _ (by have := HZO.out; omega)).trans ((HB5.out.block _ X4.out.lt).trans X4.out)
        have hx6w : Boxed W (z + 1 + 1) 64 (.slice none 0 0) := (hbl.block _ (by have := HZO.out; omega)).trans ((HB5.out.block _ X6.out.lt).trans X6.out)
        have hx7w : Boxed W (z + 1 + 1 + 1) 25 (.int .i64 0) := (hbl.block _ (by have := HZO.out; omega)).trans ((HB5.out.block _ X7.out.lt).trans X7.out)
        have W3 := Aside0.mk hx3w
        have W4 := Aside0.mk hx4w
        have W6 := Aside0.mk hx6w
        have W7 := Aside0.mk hx7w
        have HPW := Aside0.mk (show ∀ y, Below z W y → Kd.C (Kd.int .i64) y AP places.length places from fun y hy => by
          refine Kd.C_below HP.out ?_
          rw [← HZ.out]
          have h1 := HZO.out
          have h2 := HS0.out
          exact ((HB0.out.trans (HB5.out.mono (by omega))).trans (hbl.mono (by omega))).trans hy)
        clear hx1 hx2 hx3 hbv hrv hsz hok hbl hlt hr hx3w hx4w hx6w hx7w
        obtain ⟨jj, hjj⟩ : ∃ jj, jj = pre.length := ⟨_, rfl⟩
        have HJJ := Aside0.mk hjj
        have hxi : x.i = jj := by rw [hjj]; exact HX1.out
        rw [hxi]
        clear hjj hxi
        obtain ⟨d, hd⟩ : ∃ d, d = x.d := ⟨_, rfl⟩
        have HD := Aside0.mk hd
        rw [← hd]
        clear hd
        have c3 : W.cell? ⟨z, 0, none⟩ = some (.int .i64 owner) := W3.out.cell
        have c4 : W.cell? ⟨z + 1, 0, none⟩ = some (.slice AP places.length cp) := W4.out.cell
        have c4' : ∀ o : Obj, (W.alloc o).cell? ⟨z + 1, 0, none⟩ = some (.slice AP places.length cp) := fun o => (W4.out.alloc o).cell
        have hjp : jj < places.length := by have := HLT.out; have := HN.out; have := HJJ.out; unfold needP at *; omega
        obtain ⟨ap, rfl, _⟩ := Kd.at_int (HPW.out _ (Below.refl _ _)) (jj : Int) (by omega) (by omega)
        obtain ⟨p, hp⟩ : ∃ p, p = places.getD jj 0 := ⟨_, rfl⟩
        have HP0 := Aside0.mk hp.symm
        have HPC := Aside0.mk (show ∀ y, Below W.heap.size W y → y.cell? (ap.add jj) = some (.int .i64 p) from fun y hy => by
          obtain ⟨ap', e, hc⟩ := Kd.at_int (HPW.out y (hy.mono (by have := HZO.out; have := HSZ.out; have := HNS.out; omega))) (jj : Int) (by omega) (by omega)
          cases e
          rw [Int.toNat_natCast] at hc
          rw [hp]
          have hc2 : y.cell? (ap.add jj) = some (.int .i64 (rd places (jj : Int))) := hc
          rw [hc2]
          unfold rd
          rw [Int.toNat_natCast])
        clear hp
        by_cases hj1 : jj + 1 < places.length
        · have hji : ((jj : Int) + 1 < (places.length : Int)) := by omega
          obtain ⟨nx, hnx⟩ : ∃ nx, nx = nextOf places jj := ⟨_, rfl⟩
          have HNX := Aside0.mk hnx
          have hcn' : ∀ o : Obj, (W.alloc o).cell? ⟨ap.block, ap.off + (jj + 1), none⟩ = some (.int .i64 nx) := fun o => by
            obtain ⟨ap', e, hc⟩ := Kd.at_int (HPW.out (W.alloc o) ((Below.refl _ _).alloc (by have := HZO.out; have := HSZ.out; have := HNS.out; omega) o)) (((jj + 1 : Nat)) : Int) (by omega) (by omega)
            cases e
            rw [Int.toNat_natCast] at hc
            have hc2 : (W.alloc o).cell? ⟨ap.block, ap.off + (jj + 1), none⟩ = some (.int .i64 (rd places ((jj + 1 : Nat) : Int))) := hc
            rw [hc2, hnx]
            unfold nextOf rd
            rw [if_pos hj1, Int.toNat_natCast]
          clear hnx
          gi_wp2
          clear hcn'
          obtain ⟨W2, hW2⟩ : ∃ W2, W2 = W.alloc (.cells #[.int .i64 owner, .int .i64 (jj : Int), .int .i64 nx, .slice x.a d.length x.c] 70) := ⟨_, rfl⟩
          have hb2 : Below W.heap.size W W2 := by rw [hW2]; exact (Below.refl _ _).alloc (Nat.le_refl _) _
          have hnew : W2.heap[W.heap.size]? = some (.cells #[.int .i64 owner, .int .i64 (jj : Int), .int .i64 nx, .slice x.a d.length x.c] 70 (0, 0)) := by rw [hW2]; exact heap_alloc_new W _
          rw [← hW2]
          clear hW2 c4'
          obtain ⟨cb, hcb⟩ : ∃ cb, cb = W.heap.size := ⟨_, rfl⟩
          rw [← hcb] at hnew ⊢
          have HCB := Aside0.mk hcb
          have HNEW := Aside0.mk hnew
          have HB2 := Aside0.mk hb2
          have HDW := Aside0.mk (show Kd.R (Kd.int .u8) 5 W n₀ (fun k => n₀ ≤ k) (.slice x.a d.length x.c) d by have := HX3.out; rw [← HD.out] at this; exact this)
          clear hcb hnew hb2
          obtain ⟨k1, hk1⟩ : ∃ b, b = cellOk owner (jj : Int) nx d := ⟨_, rfl⟩
          have hD2 := Kd.R_below HDW.out HB2.out
          have hm := cell_may.calls owner (jj : Int) nx x.a x.c d k1 W2 (row_at hD2) (Kd.R_reads' hD2).2.1 (by rw [hk1]; exact may_plain ..)
          clear hD2
          have HOKJ := Aside0.mk (show okAt owner places text jj = (k1 && decide (1 ≤ p ∧ p ≤ 65535)) by
            unfold okAt
            rw [← HNX.out, show pieceOf text jj = d by rw [HD.out, HX2.out, HJJ.out], ← hk1, HP0.out])
          clear hk1
          refine ⟨trivial, (CallsIn.inRound l ((callsIn_wide (n := 1)).2 hm)).mono ?_⟩
          clear hm
          rintro e w9 ⟨rfl, b9⟩
          have HB9 := Aside0.mk (HB2.out.trans (b9.mono HB2.out.size))
          have HNEW9 := Aside0.mk ((b9.block _ (blk_lt HNEW.out)).trans HNEW.out)
          clear b9
          cases k1 with
          | false =>
            have HBAD := Aside0.mk (show okAt owner places text jj = false by rw [HOKJ.out]; rfl)
            have z6 : w9.heap[z + 1 + 1]? = some (.cells #[.slice none 0 0] 64 (0, 0)) := (HB9.out.block _ W6.out.lt).trans W6.out
            have z7 : w9.heap[z + 1 + 1 + 1]? = some (.cells #[.int .i64 0] 25 (0, 0)) := (HB9.out.block _ W7.out.lt).trans W7.out
            have Z6 := Aside0.mk z6
            have Z7 := Aside0.mk z7
            have y6 : w9.cell? ⟨z + 1 + 1, 0, none⟩ = some (.slice none 0 0) := cell_blk z6
            have y7 : w9.cell? ⟨z + 1 + 1 + 1, 0, none⟩ = some (.int .i64 0) := cell_blk z7
            have v6 : w9.frozen? ⟨z + 1 + 1, 0, none⟩ = false := frozen_blk z6
            have v7 : w9.frozen? ⟨z + 1 + 1 + 1, 0, none⟩ = false := frozen_blk z7
            clear z6 z7
            gi_wp2
            refine ⟨trivial, ?_⟩
            gi_wp2
            refine ⟨(((keeps_below HB9.out).trans (KeepsOthers.setCell _ _ _)).trans (KeepsOthers.setCell _ _ _)).from _, ⟨rfl, ?_, ?_, jj, hjp, HBAD.out⟩, ?_⟩
            · exact (Below.heap_setCell _ _ _ _ (by simp)).trans (blk_set Z6.out 0 _)
            · exact blk_set (show (w9.setCell ⟨z + 1 + 1, 0, none⟩ (.slice none 0 0)).heap[z + 1 + 1 + 1]? = _ from (Below.heap_setCell _ _ _ _ (by simp)).trans Z7.out) 0 _
            · exact ((((HB5.out.mono (by have := HS0.out; omega)).trans (HBL.out.mono (by have := HZO.out; omega))).trans (HB9.out.mono (by have := HZO.out; have := HSZ.out; have := HNS.out; omega))).setCell (by simp; omega) _).setCell (by simp; omega) _
          | true =>
            have c4w : w9.cell? ⟨z + 1, 0, none⟩ = some (.slice (some ap) places.length cp) := cell_blk ((HB9.out.block _ W4.out.lt).trans W4.out)
            have hpw : w9.cell? (ap.add jj) = some (.int .i64 p) := HPC.out w9 HB9.out
            gi_wp2
            have hs := cell_short.calls p (decide (0 ≤ p ∧ p ≤ 65535)) w9 (short_plain p)
            obtain ⟨k2, hk2⟩ : ∃ b, b = decide (0 ≤ p ∧ p ≤ 65535) := ⟨_, rfl⟩
            rw [← hk2] at hs
            refine ⟨trivial, (CallsIn.inRound l ((callsIn_wide (n := 1)).2 hs)).mono ?_⟩
            clear hs
            have HK2 := Aside0.mk hk2
            clear hk2 c4w hpw
            rintro e w10 ⟨rfl, b10⟩
            have HBA := Aside0.mk (HB9.out.trans (b10.below.mono HB9.out.size))
            have HNEWA := Aside0.mk ((b10.below.block _ (blk_lt HNEW9.out)).trans HNEW9.out)
            clear b10
            cases k2 with
            | false =>
              have HBAD := Aside0.mk (show okAt owner places text jj = false by rw [HOKJ.out, Bool.true_and]; exact decide_eq_false (fun h => by have := HK2.out; simp at this; omega))
              have z6 : w10.heap[z + 1 + 1]? = some (.cells #[.slice none 0 0] 64 (0, 0)) := (HBA.out.block _ W6.out.lt).trans W6.out
              have z7 : w10.heap[z + 1 + 1 + 1]? = some (.cells #[.int .i64 0] 25 (0, 0)) := (HBA.out.block _ W7.out.lt).trans W7.out
              have Z6 := Aside0.mk z6
              have Z7 := Aside0.mk z7
              have y6 : w10.cell? ⟨z + 1 + 1, 0, none⟩ = some (.slice none 0 0) := cell_blk z6
              have y7 : w10.cell? ⟨z + 1 + 1 + 1, 0, none⟩ = some (.int .i64 0) := cell_blk z7
              have v6 : w10.frozen? ⟨z + 1 + 1, 0, none⟩ = false := frozen_blk z6
              have v7 : w10.frozen? ⟨z + 1 + 1 + 1, 0, none⟩ = false := frozen_blk z7
              clear z6 z7
              gi_wp2
              refine ⟨(((keeps_below HBA.out).trans (KeepsOthers.setCell _ _ _)).trans (KeepsOthers.setCell _ _ _)).from _, ⟨rfl, ?_, ?_, jj, hjp, HBAD.out⟩, ?_⟩
              · exact (Below.heap_setCell _ _ _ _ (by simp)).trans (blk_set Z6.out 0 _)
              · exact blk_set (show (w10.setCell ⟨z + 1 + 1, 0, none⟩ (.slice none 0 0)).heap[z + 1 + 1 + 1]? = _ from (Below.heap_setCell _ _ _ _ (by simp)).trans Z7.out) 0 _
              · exact ((((HB5.out.mono (by have := HS0.out; omega)).trans (HBL.out.mono (by have := HZO.out; omega))).trans (HBA.out.mono (by have := HZO.out; have := HSZ.out; have := HNS.out; omega))).setCell (by simp; omega) _).setCell (by simp; omega) _
            | true =>
              have c4w : w10.cell? ⟨z + 1, 0, none⟩ = some (.slice (some ap) places.length cp) := cell_blk ((HBA.out.block _ W4.out.lt).trans W4.out)
              have hpw : w10.cell? (ap.add jj) = some (.int .i64 p) := HPC.out w10 HBA.out
              by_cases hp0 : p = 0
              · subst hp0
                have HBAD := Aside0.mk (show okAt owner places text jj = false by rw [HOKJ.out]; simp)
                have z6 : w10.heap[z + 1 + 1]? = some (.cells #[.slice none 0 0] 64 (0, 0)) := (HBA.out.block _ W6.out.lt).trans W6.out
                have z7 : w10.heap[z + 1 + 1 + 1]? = some (.cells #[.int .i64 0] 25 (0, 0)) := (HBA.out.block _ W7.out.lt).trans W7.out
                have Z6 := Aside0.mk z6
                have Z7 := Aside0.mk z7
                have y6 : w10.cell? ⟨z + 1 + 1, 0, none⟩ = some (.slice none 0 0) := cell_blk z6
                have y7 : w10.cell? ⟨z + 1 + 1 + 1, 0, none⟩ = some (.int .i64 0) := cell_blk z7
                have v6 : w10.frozen? ⟨z + 1 + 1, 0, none⟩ = false := frozen_blk z6
                have v7 : w10.frozen? ⟨z + 1 + 1 + 1, 0, none⟩ = false := frozen_blk z7
                clear z6 z7
                gi_wp2
                refine ⟨(((keeps_below HBA.out).trans (KeepsOthers.setCell _ _ _)).trans (KeepsOthers.setCell _ _ _)).from _, ⟨rfl, ?_, ?_, jj, hjp, HBAD.out⟩, ?_⟩
                · exact (Below.heap_setCell _ _ _ _ (by simp)).trans (blk_set Z6.out 0 _)
                · exact blk_set (show (w10.setCell ⟨z + 1 + 1, 0, none⟩ (.slice none 0 0)).heap[z + 1 + 1 + 1]? = _ from (Below.heap_setCell _ _ _ _ (by simp)).trans Z7.out) 0 _
                · exact ((((HB5.out.mono (by have := HS0.out; omega)).trans (HBL.out.mono (by have := HZO.out; omega))).trans (HBA.out.mono (by have := HZO.out; have := HSZ.out; have := HNS.out; omega))).setCell (by simp; omega) _).setCell (by simp; omega) _
              · have hpb : (p == 0) = false := by simpa using hp0
                have HGOOD := Aside0.mk (show okAt owner places text jj = true by rw [HOKJ.out, Bool.true_and]; exact decide_eq_true (by have := HK2.out; simp at this; omega))
                have o0 : w10.cell? ⟨ob, 0, none⟩ = some v := cell_blk ((HBA.out.block _ HBV.out.lt).trans HBV.out)
                have n0_ : w10.cell? ⟨cb, 0, none⟩ = some (.int .i64 owner) := cell_blk HNEWA.out
                have n1_ : w10.cell? ⟨cb, 1, none⟩ = some (.int .i64 (jj : Int)) := cell_blk HNEWA.out
                have n2_ : w10.cell? ⟨cb, 2, none⟩ = some (.int .i64 nx) := cell_blk HNEWA.out
                have n3_ : w10.cell? ⟨cb, 3, none⟩ = some (.slice x.a d.length x.c) := cell_blk HNEWA.out
                have HPE := Aside0.mk (show cellOf owner places text jj = ⟨owner, (jj : Int), nx, d⟩ by
                  unfold cellOf
                  rw [← HNX.out, show pieceOf text jj = d by rw [HD.out, HX2.out, HJJ.out]])
                have HRVA := Aside0.mk (show Kd.R PChain.k70 70 w10 n₀ (fun k => n₀ ≤ k) v (cellsAt owner places text jj) by
                  have := Kd.R_below HRV.out HBA.out
                  rw [← HJJ.out] at this
                  exact this)
                have HMA := Aside0.mk (show PChain.k70.M w10 n₀ (fun k => n₀ ≤ k ∧ some k ≠ v.ownBlock) (cellOf owner places text jj) [.int .i64 owner, .int .i64 (jj : Int), .int .i64 nx, .slice x.a d.length x.c] by
                  rw [HPE.out]
                  refine PChain.k70_mkM w10 n₀ _ ⟨owner, (jj : Int), nx, d⟩ ?_
                  refine Kd.R_mono (Kd.R_bound (Kd.R_below HDW.out HBA.out)) (fun k hk => ⟨hk.1, ?_⟩)
                  obtain ⟨_, _, _, q, hq, cells, hc⟩ := hk
                  obtain rfl : q = 5 := by simpa [Kd.int, Kd.scalar] using hq
                  exact Kd.R_ne HRVA.out hc (by decide))
                have hn10 : n₀ ≤ w10.heap.size := by have := HBA.out.size; have := HSZ.out; omega
                have hl10 : ((cellsAt owner places text jj).length + 1) * 48 ≤ 140737488355328 := by rw [cellsAt_len]; omega
                gi_wp2_with (gi_at_builtin; refine R_append_in PChain.k70 (w0 := w10) (W := w10) n₀ rfl (.tmp 65) (.tmp 67) 64 70 (.agg #[(.int .i64 0), (.int .i64 0), (.int .i64 0), (.slice none 0 0)]) 48 rfl Tryz.underlying64 PChain.info70 rfl (by decide) (by omega) v (cellsAt owner places text jj) (cellOf owner places text jj) [.int .i64 owner, .int .i64 (jj : Int), .int .i64 nx, .slice x.a d.length x.c] (fun k => n₀ ≤ k) (fun k => n₀ ≤ k ∧ some k ≠ v.ownBlock) rfl rfl HMA.out (fun k hk => hk) (fun k hk => Nat.le_trans hn10 hk) HRVA.out (Below.refl _ _) hn10 hl10 ?_; refine Hid.out ?_)
                refine Lib.hid ?_
                intro v1 w11 hr11 hb11 hg11 hat11
                obtain ⟨A1, c1, rfl⟩ := Kd.R_slice hr11
                have hzn : z ≤ n₀ ∧ ob < n₀ ∧ ob + 1 < n₀ ∧ z ≤ ob ∧ n₀ ≤ W.heap.size := by have := HZO.out; have := HNS.out; have := HSZ.out; omega
                obtain ⟨e1, e2, e3, e4, e5⟩ := hzn
                have hbo : w11.heap[ob]? = some (.cells #[v] 64 (0, 0)) := (hb11.block ob e2).trans ((HBA.out.block _ HBV.out.lt).trans HBV.out)
                have o1 : w11.cell? ⟨ob, 0, none⟩ = some v := cell_blk hbo
                have of1 : w11.frozen? ⟨ob, 0, none⟩ = false := frozen_blk hbo
                have HBO := Aside0.mk hbo
                have HR11 := Aside0.mk hr11
                have HB11 := Aside0.mk hb11
                have HKO := Aside0.mk ((keeps_below HBA.out).trans (KeepsOthers.of_grownBy hg11 (fun q o eq hq => by
                  obtain ⟨inner, hown⟩ := Kd.R_own HRVA.out
                  obtain ⟨cells, hcl⟩ := own_typed hown q eq
                  rw [hcl] at hq
                  cases hq
                  rfl)))
                clear hbo hr11 hb11 hg11 hat11
                gi_wp2
                refine ⟨(HKO.out.trans (KeepsOthers.setCell _ _ _)).from _, ⟨((HBA.out.mono (by omega)).trans (HB11.out.mono e1)).setCell e4 _, ?_⟩, ⟨⟨_, blk_set HBO.out 0 _, ?_⟩, ?_, ?_⟩, ((HBL.out.trans (HBA.out.mono (by omega))).trans (HB11.out.mono (by omega))).setCell (Nat.le_refl _) _⟩
                · rw [Below.heap_setCell _ _ _ _ (by simp), HB11.out.block _ e3]
                  exact HBA.out.block _ (by omega)
                · have hh := Kd.R_far (p := ⟨ob, 0, none⟩) HR11.out (fun k hk => by show k ≠ ob; omega) (.slice A1 (cellsAt owner places text jj ++ [cellOf owner places text jj]).length c1)
                  rw [List.length_append, ← HJJ.out]
                  show Kd.R _ _ _ _ _ _ (cellsAt owner places text (jj + 1))
                  rw [cellsAt_succ]
                  rw [show (cellsAt owner places text jj ++ [cellOf owner places text jj]).length = (cellsAt owner places text jj).length + 1 by rw [List.length_append]; rfl] at hh
                  exact hh
                · simp only [World.size_setCell]
                  have := HB11.out.size
                  omega
                · intro j hj
                  rw [List.length_append, ← HJJ.out] at hj
                  by_cases hjq : j = jj
                  · rw [hjq]; exact HGOOD.out
                  · exact HOK.out j (by rw [← HJJ.out]; simp at hj; omega)
        · have hji : ¬ ((jj : Int) + 1 < (places.length : Int)) := by omega
          have HNX := Aside0.mk (show (0 : Int) = nextOf places jj by unfold nextOf; rw [if_neg hj1])
          gi_wp2
          obtain ⟨W2, hW2⟩ : ∃ W2, W2 = W.alloc (.cells #[.int .i64 owner, .int .i64 (jj : Int), .int .i64 0, .slice x.a d.length x.c] 70) := ⟨_, rfl⟩
          have hb2 : Below W.heap.size W W2 := by rw [hW2]; exact (Below.refl _ _).alloc (Nat.le_refl _) _
          have hnew : W2.heap[W.heap.size]? = some (.cells #[.int .i64 owner, .int .i64 (jj : Int), .int .i64 0, .slice x.a d.length x.c] 70 (0, 0)) := by rw [hW2]; exact heap_alloc_new W _
          rw [← hW2]
          clear hW2 c4'
          obtain ⟨cb, hcb⟩ : ∃ cb, cb = W.heap.size := ⟨_, rfl⟩
          rw [← hcb] at hnew ⊢
          have HCB := Aside0.mk hcb
          have HNEW := Aside0.mk hnew
          have HB2 := Aside0.mk hb2
          have HDW := Aside0.mk (show Kd.R (Kd.int .u8) 5 W n₀ (fun k => n₀ ≤ k) (.slice x.a d.length x.c) d by have := HX3.out; rw [← HD.out] at this; exact this)
          clear hcb hnew hb2
          obtain ⟨k1, hk1⟩ : ∃ b, b = cellOk owner (jj : Int) 0 d := ⟨_, rfl⟩
          have hD2 := Kd.R_below HDW.out HB2.out
          have hm := cell_may.calls owner (jj : Int) 0 x.a x.c d k1 W2 (row_at hD2) (Kd.R_reads' hD2).2.1 (by rw [hk1]; exact may_plain ..)
          clear hD2
          have HOKJ := Aside0.mk (show okAt owner places text jj = (k1 && decide (1 ≤ p ∧ p ≤ 65535)) by
            unfold okAt
            rw [← HNX.out, show pieceOf text jj = d by rw [HD.out, HX2.out, HJJ.out], ← hk1, HP0.out])
          clear hk1
          refine ⟨trivial, (CallsIn.inRound l ((callsIn_wide (n := 1)).2 hm)).mono ?_⟩
          clear hm
          rintro e w9 ⟨rfl, b9⟩
          have HB9 := Aside0.mk (HB2.out.trans (b9.mono HB2.out.size))
          have HNEW9 := Aside0.mk ((b9.block _ (blk_lt HNEW.out)).trans HNEW.out)
          clear b9
          cases k1 with
          | false =>
            have HBAD := Aside0.mk (show okAt owner places text jj = false by rw [HOKJ.out]; rfl)
            have z6 : w9.heap[z + 1 + 1]? = some (.cells #[.slice none 0 0] 64 (0, 0)) := (HB9.out.block _ W6.out.lt).trans W6.out
            have z7 : w9.heap[z + 1 + 1 + 1]? = some (.cells #[.int .i64 0] 25 (0, 0)) := (HB9.out.block _ W7.out.lt).trans W7.out
            have Z6 := Aside0.mk z6
            have Z7 := Aside0.mk z7
            have y6 : w9.cell? ⟨z + 1 + 1, 0, none⟩ = some (.slice none 0 0) := cell_blk z6
            have y7 : w9.cell? ⟨z + 1 + 1 + 1, 0, none⟩ = some (.int .i64 0) := cell_blk z7
            have v6 : w9.frozen? ⟨z + 1 + 1, 0, none⟩ = false := frozen_blk z6
            have v7 : w9.frozen? ⟨z + 1 + 1 + 1, 0, none⟩ = false := frozen_blk z7
            clear z6 z7
            gi_wp2
            refine ⟨trivial, ?_⟩
            gi_wp2
            refine ⟨(((keeps_below HB9.out).trans (KeepsOthers.setCell _ _ _)).trans (KeepsOthers.setCell _ _ _)).from _, ⟨rfl, ?_, ?_, jj, hjp, HBAD.out⟩, ?_⟩
            · exact (Below.heap_setCell _ _ _ _ (by simp)).trans (blk_set Z6.out 0 _)
            · exact blk_set (show (w9.setCell ⟨z + 1 + 1, 0, none⟩ (.slice none 0 0)).heap[z + 1 + 1 + 1]? = _ from (Below.heap_setCell _ _ _ _ (by simp)).trans Z7.out) 0 _
            · exact ((((HB5.out.mono (by have := HS0.out; omega)).trans (HBL.out.mono (by have := HZO.out; omega))).trans (HB9.out.mono (by have := HZO.out; have := HSZ.out; have := HNS.out; omega))).setCell (by simp; omega) _).setCell (by simp; omega) _
          | true =>
            have c4w : w9.cell? ⟨z + 1, 0, none⟩ = some (.slice (some ap) places.length cp) := cell_blk ((HB9.out.block _ W4.out.lt).trans W4.out)
            have hpw : w9.cell? (ap.add jj) = some (.int .i64 p) := HPC.out w9 HB9.out
            gi_wp2
            have hs := cell_short.calls p (decide (0 ≤ p ∧ p ≤ 65535)) w9 (short_plain p)
            obtain ⟨k2, hk2⟩ : ∃ b, b = decide (0 ≤ p ∧ p ≤ 65535) := ⟨_, rfl⟩
            rw [← hk2] at hs
            refine ⟨trivial, (CallsIn.inRound l ((callsIn_wide (n := 1)).2 hs)).mono ?_⟩
            clear hs
            have HK2 := Aside0.mk hk2
            clear hk2 c4w hpw
            rintro e w10 ⟨rfl, b10⟩
            have HBA := Aside0.mk (HB9.out.trans (b10.below.mono HB9.out.size))
            have HNEWA := Aside0.mk ((b10.below.block _ (blk_lt HNEW9.out)).trans HNEW9.out)
            clear b10
            cases k2 with
            | false =>
              have HBAD := Aside0.mk (show okAt owner places text jj = false by rw [HOKJ.out, Bool.true_and]; exact decide_eq_false (fun h => by have := HK2.out; simp at this; omega))
              have z6 : w10.heap[z + 1 + 1]? = some (.cells #[.slice none 0 0] 64 (0, 0)) := (HBA.out.block _ W6.out.lt).trans W6.out
              have z7 : w10.heap[z + 1 + 1 + 1]? = some (.cells #[.int .i64 0] 25 (0, 0)) := (HBA.out.block _ W7.out.lt).trans W7.out
              have Z6 := Aside0.mk z6
              have Z7 := Aside0.mk z7
              have y6 : w10.cell? ⟨z + 1 + 1, 0, none⟩ = some (.slice none 0 0) := cell_blk z6
              have y7 : w10.cell? ⟨z + 1 + 1 + 1, 0, none⟩ = some (.int .i64 0) := cell_blk z7
              have v6 : w10.frozen? ⟨z + 1 + 1, 0, none⟩ = false := frozen_blk z6
              have v7 : w10.frozen? ⟨z + 1 + 1 + 1, 0, none⟩ = false := frozen_blk z7
              clear z6 z7
              gi_wp2
              refine ⟨(((keeps_below HBA.out).trans (KeepsOthers.setCell _ _ _)).trans (KeepsOthers.setCell _ _ _)).from _, ⟨rfl, ?_, ?_, jj, hjp, HBAD.out⟩, ?_⟩
              · exact (Below.heap_setCell _ _ _ _ (by simp)).trans (blk_set Z6.out 0 _)
              · exact blk_set (show (w10.setCell ⟨z + 1 + 1, 0, none⟩ (.slice none 0 0)).heap[z + 1 + 1 + 1]? = _ from (Below.heap_setCell _ _ _ _ (by simp)).trans Z7.out) 0 _
              · exact ((((HB5.out.mono (by have := HS0.out; omega)).trans (HBL.out.mono (by have := HZO.out; omega))).trans (HBA.out.mono (by have := HZO.out; have := HSZ.out; have := HNS.out; omega))).setCell (by simp; omega) _).setCell (by simp; omega) _
            | true =>
              have c4w : w10.cell? ⟨z + 1, 0, none⟩ = some (.slice (some ap) places.length cp) := cell_blk ((HBA.out.block _ W4.out.lt).trans W4.out)
              have hpw : w10.cell? (ap.add jj) = some (.int .i64 p) := HPC.out w10 HBA.out
              by_cases hp0 : p = 0
              · subst hp0
                have HBAD := Aside0.mk (show okAt owner places text jj = false by rw [HOKJ.out]; simp)
                have z6 : w10.heap[z + 1 + 1]? = some (.cells #[.slice none 0 0] 64 (0, 0)) := (HBA.out.block _ W6.out.lt).trans W6.out
                have z7 : w10.heap[z + 1 + 1 + 1]? = some (.cells #[.int .i64 0] 25 (0, 0)) := (HBA.out.block _ W7.out.lt).trans W7.out
                have Z6 := Aside0.mk z6
                have Z7 := Aside0.mk z7
                have y6 : w10.cell? ⟨z + 1 + 1, 0, none⟩ = some (.slice none 0 0) := cell_blk z6
                have y7 : w10.cell? ⟨z + 1 + 1 + 1, 0, none⟩ = some (.int .i64 0) := cell_blk z7
                have v6 : w10.frozen? ⟨z + 1 + 1, 0, none⟩ = false := frozen_blk z6
                have v7 : w10.frozen? ⟨z + 1 + 1 + 1, 0, none⟩ = false := frozen_blk z7
                clear z6 z7
                gi_wp2
                refine ⟨(((keeps_below HBA.out).trans (KeepsOthers.setCell _ _ _)).trans (KeepsOthers.setCell _ _ _)).from _, ⟨rfl, ?_, ?_, jj, hjp, HBAD.out⟩, ?_⟩
                · exact (Below.heap_setCell _ _ _ _ (by simp)).trans (blk_set Z6.out 0 _)
                · exact blk_set (show (w10.setCell ⟨z + 1 + 1, 0, none⟩ (.slice none 0 0)).heap[z + 1 + 1 + 1]? = _ from (Below.heap_setCell _ _ _ _ (by simp)).trans Z7.out) 0 _
                · exact ((((HB5.out.mono (by have := HS0.out; omega)).trans (HBL.out.mono (by have := HZO.out; omega))).trans (HBA.out.mono (by have := HZO.out; have := HSZ.out; have := HNS.out; omega))).setCell (by simp; omega) _).setCell (by simp; omega) _
              · have hpb : (p == 0) = false := by simpa using hp0
                have HGOOD := Aside0.mk (show okAt owner places text jj = true by rw [HOKJ.out, Bool.true_and]; exact decide_eq_true (by have := HK2.out; simp at this; omega))
                have o0 : w10.cell? ⟨ob, 0, none⟩ = some v := cell_blk ((HBA.out.block _ HBV.out.lt).trans HBV.out)
                have n0_ : w10.cell? ⟨cb, 0, none⟩ = some (.int .i64 owner) := cell_blk HNEWA.out
                have n1_ : w10.cell? ⟨cb, 1, none⟩ = some (.int .i64 (jj : Int)) := cell_blk HNEWA.out
                have n2_ : w10.cell? ⟨cb, 2, none⟩ = some (.int .i64 0) := cell_blk HNEWA.out
                have n3_ : w10.cell? ⟨cb, 3, none⟩ = some (.slice x.a d.length x.c) := cell_blk HNEWA.out
                have HPE := Aside0.mk (show cellOf owner places text jj = ⟨owner, (jj : Int), 0, d⟩ by
                  unfold cellOf
                  rw [← HNX.out, show pieceOf text jj = d by rw [HD.out, HX2.out, HJJ.out]])
                have HRVA := Aside0.mk (show Kd.R PChain.k70 70 w10 n₀ (fun k => n₀ ≤ k) v (cellsAt owner places text jj) by
                  have := Kd.R_below HRV.out HBA.out
                  rw [← HJJ.out] at this
                  exact this)
                have HMA := Aside0.mk (show PChain.k70.M w10 n₀ (fun k => n₀ ≤ k ∧ some k ≠ v.ownBlock) (cellOf owner places text jj) [.int .i64 owner, .int .i64 (jj : Int), .int .i64 0, .slice x.a d.length x.c] by
                  rw [HPE.out]
                  refine PChain.k70_mkM w10 n₀ _ ⟨owner, (jj : Int), 0, d⟩ ?_
                  refine Kd.R_mono (Kd.R_bound (Kd.R_below HDW.out HBA.out)) (fun k hk => ⟨hk.1, ?_⟩)
                  obtain ⟨_, _, _, q, hq, cells, hc⟩ := hk
                  obtain rfl : q = 5 := by simpa [Kd.int, Kd.scalar] using hq
                  exact Kd.R_ne HRVA.out hc (by decide))
                have hn10 : n₀ ≤ w10.heap.size := by have := HBA.out.size; have := HSZ.out; omega
                have hl10 : ((cellsAt owner places text jj).length + 1) * 48 ≤ 140737488355328 := by rw [cellsAt_len]; omega
                gi_wp2_with (gi_at_builtin; refine R_append_in PChain.k70 (w0 := w10) (W := w10) n₀ rfl (.tmp 65) (.tmp 67) 64 70 (.agg #[(.int .i64 0), (.int .i64 0), (.int .i64 0), (.slice none 0 0)]) 48 rfl Tryz.underlying64 PChain.info70 rfl (by decide) (by omega) v (cellsAt owner places text jj) (cellOf owner places text jj) [.int .i64 owner, .int .i64 (jj : Int), .int .i64 0, .slice x.a d.length x.c] (fun k => n₀ ≤ k) (fun k => n₀ ≤ k ∧ some k ≠ v.ownBlock) rfl rfl HMA.out (fun k hk => hk) (fun k hk => Nat.le_trans hn10 hk) HRVA.out (Below.refl _ _) hn10 hl10 ?_; refine Hid.out ?_)
                refine Lib.hid ?_
                intro v1 w11 hr11 hb11 hg11 hat11
                obtain ⟨A1, c1, rfl⟩ := Kd.R_slice hr11
                have hzn : z ≤ n₀ ∧ ob < n₀ ∧ ob + 1 < n₀ ∧ z ≤ ob ∧ n₀ ≤ W.heap.size := by have := HZO.out; have := HNS.out; have := HSZ.out; omega
                obtain ⟨e1, e2, e3, e4, e5⟩ := hzn
                have hbo : w11.heap[ob]? = some (.cells #[v] 64 (0, 0)) := (hb11.block ob e2).trans ((HBA.out.block _ HBV.out.lt).trans HBV.out)
                have o1 : w11.cell? ⟨ob, 0, none⟩ = some v := cell_blk hbo
                have of1 : w11.frozen? ⟨ob, 0, none⟩ = false := frozen_blk hbo
                have HBO := Aside0.mk hbo
                have HR11 := Aside0.mk hr11
                have HB11 := Aside0.mk hb11
                have HKO := Aside0.mk ((keeps_below HBA.out).trans (KeepsOthers.of_grownBy hg11 (fun q o eq hq => by
                  obtain ⟨inner, hown⟩ := Kd.R_own HRVA.out
                  obtain ⟨cells, hcl⟩ := own_typed hown q eq
                  rw [hcl] at hq
                  cases hq
                  rfl)))
                clear hbo hr11 hb11 hg11 hat11
                gi_wp2
                refine ⟨(HKO.out.trans (KeepsOthers.setCell _ _ _)).from _, ⟨((HBA.out.mono (by omega)).trans (HB11.out.mono e1)).setCell e4 _, ?_⟩, ⟨⟨_, blk_set HBO.out 0 _, ?_⟩, ?_, ?_⟩, ((HBL.out.trans (HBA.out.mono (by omega))).trans (HB11.out.mono (by omega))).setCell (Nat.le_refl _) _⟩
                · rw [Below.heap_setCell _ _ _ _ (by simp), HB11.out.block _ e3]
                  exact HBA.out.block _ (by omega)
                · have hh := Kd.R_far (p := ⟨ob, 0, none⟩) HR11.out (fun k hk => by show k ≠ ob; omega) (.slice A1 (cellsAt owner places text jj ++ [cellOf owner places text jj]).length c1)
                  rw [List.length_append, ← HJJ.out]
                  show Kd.R _ _ _ _ _ _ (cellsAt owner places text (jj + 1))
                  rw [cellsAt_succ]
                  rw [show (cellsAt owner places text jj ++ [cellOf owner places text jj]).length = (cellsAt owner places text jj).length + 1 by rw [List.length_append]; rfl] at hh
                  exact hh
                · simp only [World.size_setCell]
                  have := HB11.out.size
                  omega
                · intro j hj
                  rw [List.length_append, ← HJJ.out] at hj
                  by_cases hjq : j = jj
                  · rw [hjq]; exact HGOOD.out
                  · exact HOK.out j (by rw [← HJJ.out]; simp at hj; omega)
      case done =>
        rintro D' ys W hD hS ⟨⟨⟨v, hbv, hrv⟩, hsz, hok⟩, hbl⟩ hK
        have hyl : ys.length = places.length := by rw [hS, HN.out]; rfl
        rw [hyl] at hrv hok
        obtain ⟨A1, c1, rfl⟩ := Kd.R_slice hrv
        have hcl1 := (Kd.R_reads hrv)
        have HQ := Aside0.mk (show R = (cellsAt owner places text places.length, 0) by
          rw [HRR.out]
          unfold cutP
          rw [if_neg (by omega), if_neg (by have := HN.out; omega), if_pos (List.all_eq_true.2 (fun j hj => hok j (List.mem_range.1 hj)))])
        have g6 : W.heap[z + 1 + 1]? = some (.cells #[.slice none 0 0] 64 (0, 0)) := (hbl.block _ (by have := HZO.out; omega)).trans ((HB5.out.block _ X6.out.lt).trans X6.out)
        have g7 : W.heap[z + 1 + 1 + 1]? = some (.cells #[.int .i64 0] 25 (0, 0)) := (hbl.block _ (by have := HZO.out; omega)).trans ((HB5.out.block _ X7.out.lt).trans X7.out)
        have y6 : W.cell? ⟨z + 1 + 1, 0, none⟩ = some (.slice none 0 0) := cell_blk g6
        have y7 : W.cell? ⟨z + 1 + 1 + 1, 0, none⟩ = some (.int .i64 0) := cell_blk g7
        have v6 : W.frozen? ⟨z + 1 + 1, 0, none⟩ = false := frozen_blk g6
        have v7 : W.frozen? ⟨z + 1 + 1 + 1, 0, none⟩ = false := frozen_blk g7
        have y8 : W.cell? ⟨ob, 0, none⟩ = some (.slice A1 (cellsAt owner places text places.length).length c1) := hbv.cell
        have HG6 := Aside0.mk g6
        have HG7 := Aside0.mk g7
        have HRV := Aside0.mk hrv
        have HBL := Aside0.mk hbl
        have HSZ := Aside0.mk hsz
        obtain ⟨ln, hln⟩ : ∃ ln, ln = (cellsAt owner places text places.length).length := ⟨_, rfl⟩
        have HLN := Aside0.mk hln
        rw [← hln] at y8
        clear g6 g7 hrv hbl hok hbv hcl1 hyl hS hsz hln
        gi_wp2
        obtain ⟨V, hV⟩ : ∃ V, V = (W.setCell ⟨z + 1 + 1, 0, none⟩ (.slice A1 ln c1)).setCell ⟨z + 1 + 1 + 1, 0, none⟩ (.int .i64 0) := ⟨_, rfl⟩
        have hKV : V.heap[D']? = some (.deferred (some [])) := by
          rw [hV]
          exact ((KeepsOthers.setCell W ⟨z + 1 + 1, 0, none⟩ (.slice A1 ln c1)).trans (KeepsOthers.setCell _ ⟨z + 1 + 1 + 1, 0, none⟩ (.int .i64 0))).same D' _ hK rfl
        have e6 : V.heap[z + 1 + 1]? = some (.cells #[.slice A1 ln c1] 64 (0, 0)) := by
          rw [hV]
          exact (Below.heap_setCell _ _ _ _ (by simp)).trans (blk_set HG6.out 0 _)
        have e7 : V.heap[z + 1 + 1 + 1]? = some (.cells #[.int .i64 0] 25 (0, 0)) := by
          rw [hV]
          exact blk_set (show (W.setCell ⟨z + 1 + 1, 0, none⟩ (.slice A1 ln c1)).heap[z + 1 + 1 + 1]? = _ from (Below.heap_setCell _ _ _ _ (by simp)).trans HG7.out) 0 _
        have hRV : Kd.R PChain.k70 70 V n₀ (fun k => n₀ ≤ k) (.slice A1 ln c1) (cellsAt owner places text places.length) := by
          rw [hV, HLN.out]
          have q := HZO.out
          have q2 := HNS.out
          exact Kd.R_far (p := ⟨z + 1 + 1 + 1, 0, none⟩) (Kd.R_far (p := ⟨z + 1 + 1, 0, none⟩) HRV.out (fun k hk => by show k ≠ z + 1 + 1; omega) _) (fun k hk => by show k ≠ z + 1 + 1 + 1; omega) _
        have hBV : Below z W0 V := by
          rw [hV]
          have q := HZO.out
          have q2 := HS0.out
          exact (((HB5.out.mono (by omega)).trans (HBL.out.mono (by omega))).setCell (p := ⟨z + 1 + 1, 0, none⟩) (by show z ≤ z + 1 + 1; omega) _).setCell (p := ⟨z + 1 + 1 + 1, 0, none⟩) (by show z ≤ z + 1 + 1 + 1; omega) _
        rw [← hV]
        clear hV
        refine ⟨by simp, .inl ⟨_, _, rfl, run_takeDeferred hKV, ?_⟩⟩
        have hc6 := cell_kept (show V.cell? ⟨z + 1 + 1, 0, none⟩ = some (.slice A1 ln c1) from cell_blk e6) (grownBy_putObj' V D' (.deferred none)) (fun r e => by cases e; exact ⟨_, hKV, rfl⟩)
        have hc7 := cell_kept (show V.cell? ⟨z + 1 + 1 + 1, 0, none⟩ = some (.int .i64 0) from cell_blk e7) (grownBy_putObj' V D' (.deferred none)) (fun r e => by cases e; exact ⟨_, hKV, rfl⟩)
        have hRF := R_keptrow hRV (grownBy_putObj' V D' (.deferred none)) (fun r e => by cases e; exact ⟨_, hKV, rfl⟩)
        rw [HLN.out] at hRF hc6
        refine ⟨.tuple #[.slice A1 (cellsAt owner places text places.length).length c1, .int .i64 0], ?_, A1, c1, by rw [HQ.out], ?_, fun x hx => ?_, ?_, by rw [HQ.out]; exact Kd.R_mono (Kd.R_lower hRF (by have q := HZO.out; have q2 := HNS.out; have q3 := HS0.out; have q4 := HZ.out; omega)) (fun _ _ => trivial)⟩
        · simp [results, Tryz.f19, go_sem, hc6, hc7]
        · rw [HQ.out]
          obtain ⟨A2, c2, e, hle, _⟩ := Kd.R_reads hRF
          cases e
          exact hle
        · rw [HQ.out]
          obtain ⟨A2, c2, e, hle, hcc⟩ := Kd.R_reads (Kd.R_below hRF hx)
          cases e
          exact hcc
        · rw [← HZ.out]
          exact (HB0.out.trans hBV).trans (belowK_b (w := W1) (by have := HS1.out; have := HZO.out; omega) V D' _ _ (by omega) hKV rfl rfl)
      case stop =>
        rintro D' cc pre W hD _ ⟨⟨rfl, h6, h7, j, hj, hjf⟩, hB⟩ hK
        have HQ := Aside0.mk (show R = ([], 1) by
          rw [HRR.out]
          unfold cutP
          rw [if_neg (by omega), if_neg (by have := HN.out; omega), if_neg (by
            intro h
            have := List.all_eq_true.1 h j (List.mem_range.2 hj)
            rw [hjf] at this
            cases this)])
        have H6 := Aside0.mk h6
        have H7 := Aside0.mk h7
        clear h6 h7
        gi_wp2
        refine ⟨by simp, .inl ⟨_, _, rfl, run_takeDeferred hK, ?_⟩⟩
        have hc6 := cell_kept (show W.cell? ⟨z + 1 + 1, 0, none⟩ = some (.slice none 0 0) from cell_blk H6.out) (grownBy_putObj' W D' (.deferred none)) (fun r e => by cases e; exact ⟨_, hK, rfl⟩)
        have hc7 := cell_kept (show W.cell? ⟨z + 1 + 1 + 1, 0, none⟩ = some (.int .i64 1) from cell_blk H7.out) (grownBy_putObj' W D' (.deferred none)) (fun r e => by cases e; exact ⟨_, hK, rfl⟩)
        refine ⟨.tuple #[.slice none 0 0, .int .i64 1], ?_, none, 0, by rw [HQ.out]; rfl, by rw [HQ.out]; exact Nat.le_refl _, fun x hx => by rw [HQ.out]; exact ⟨rfl, by decide, fun h => absurd h (by decide)⟩, ?_, by rw [HQ.out]; exact Kd.R_nil _ _ _ _ _⟩
        · simp [results, Tryz.f19, go_sem, hc6, hc7]
        · rw [← HZ.out]
          exact (HB0.out.trans hB).trans (belowK_b (w := W1) (by have := HS1.out; have := HZO.out; omega) W D' _ _ (by omega) hK rfl rfl)
    · have hne : ((places.length : Int) != (needP text.length : Int)) = true := by simp; omega
      have HQ := Aside0.mk (show R = ([], 1) by rw [HRR.out]; unfold cutP; rw [if_neg (by omega), if_pos (.inr hn)])
      gi_wp2
      refine ⟨.tuple #[.slice none 0 0, .int .i64 1], ?_, none, 0, by rw [HQ.out]; rfl, by rw [HQ.out]; exact Nat.le_refl _, fun x hx => by rw [HQ.out]; exact ⟨rfl, by decide, fun h => absurd h (by decide)⟩, ?_, by rw [HQ.out]; exact Kd.R_nil _ _ _ _ _⟩
      · have e6 := blk_set G6.out 0 (.slice none 0 0)
        have e7 := blk_set G7.out 0 (.int .i64 1)
        have e6' : ((w5.setCell ⟨z + 1 + 1, 0, none⟩ (.slice none 0 0)).setCell ⟨z + 1 + 1 + 1, 0, none⟩ (.int .i64 1)).cell? ⟨z + 1 + 1, 0, none⟩ = some (.slice none 0 0) := by
          exact (cell_blk ((Below.heap_setCell _ _ _ _ (by simp)).trans e6))
        have e7' : ((w5.setCell ⟨z + 1 + 1, 0, none⟩ (.slice none 0 0)).setCell ⟨z + 1 + 1 + 1, 0, none⟩ (.int .i64 1)).cell? ⟨z + 1 + 1 + 1, 0, none⟩ = some (.int .i64 1) := by
          exact (cell_blk (blk_set (show (w5.setCell ⟨z + 1 + 1, 0, none⟩ (.slice none 0 0)).heap[z + 1 + 1 + 1]? = _ from (Below.heap_setCell _ _ _ _ (by simp)).trans G7.out) 0 _))
        simp [results, Tryz.f19, go_sem, e6', e7']
      · rw [← HZ.out]
        exact ((HB0.out.trans (HB5.out.mono (by have := HS0.out; omega))).setCell (by simp; omega) _).setCell (by simp; omega) _
end Cell
end Go.Proofs.YtclneeamemofoaaGreat
namespace Go.Proofs.YtclneeamemofoaaGreat
set_option linter.unusedVariables false
set_option linter.unusedSimpArgs false
open Go.RowKit Go.Proofs.YtclneeamemofoaaGreatW.PrintWords Go.Proofs.YtclneeamemofoaaGreatW.PrintLast Go.Proofs.YtclneeamemofoaaGreatW.PrintMore
namespace Cell
open Go.Num Go.Crc
theorem may2_plain (o n x : Int) (d : List Int) : PCellCuts.cell_may.f o n x d = some (cellOk o n x d) := may_plain o n x d
theorem cellsAt_get (owner : Int) (places text : List Int) (k i : Nat) (h : i < k) : PChain.rd_T70 (cellsAt owner places text k) (i : Int) = cellOf owner places text i := by
  unfold PChain.rd_T70 cellsAt
  rw [Int.toNat_natCast, List.getD_eq_getElem?_getD, List.getElem?_map, List.getElem?_range h]
  rfl
theorem take_piece (text : List Int) (i : Nat) : text.take (242 * i) ++ pieceOf text i = text.take (242 * (i + 1)) := by
  unfold pieceOf
  rw [Nat.mul_succ, List.take_add]
theorem okAt_iff {owner : Int} {places text : List Int} {j : Nat} (h : okAt owner places text j = true) : cellOk owner (j : Int) (nextOf places j) (pieceOf text j) = true ∧ 1 ≤ places.getD j 0 ∧ places.getD j 0 ≤ 65535 := by
  unfold okAt at h
  simp only [Bool.and_eq_true, decide_eq_true_eq] at h
  exact ⟨h.1, h.2⟩
theorem join_from (owner : Int) (places text : List Int) (N : Nat) (hN : places.length = N) (hT : N = needP text.length) (hpos : 0 < N) (hfew : text.length ≤ 100000) (hok : ∀ j, j < N → okAt owner places text j = true) :
    ∀ (d i k : Nat), i + d = N → PCellCuts.cell_Join.l0 (k + 2 * d + 1) (cellsAt owner places text N) (text.take (242 * i)) (cellsAt owner places text N) (N : Int) (i : Int) = some (text, true)
  | 0, i, k, h => by
    simp only [PCellCuts.cell_Join.l0]
    rw [if_neg (by omega), if_neg (by rw [cellsAt_len]; omega)]
    have e : text.take (242 * i) = text := List.take_of_length_le (by unfold needP at hT; omega)
    rw [e, if_neg (by omega)]
  | d + 1, i, k, h => by
    have hi : i < N := by omega
    have h0 := okAt_iff (hok i hi)
    simp only [PCellCuts.cell_Join.l0]
    rw [if_pos (by omega), if_pos (by omega), if_pos (by rw [cellsAt_len]; omega), cellsAt_get _ _ _ _ _ hi]
    rw [may2_plain, show cellOk (cellOf owner places text i).f0 (cellOf owner places text i).f1 (cellOf owner places text i).f2 (cellOf owner places text i).f3 = true from h0.1]
    simp only [Option.bind_some, if_true]
    rw [if_pos (by rw [cellsAt_len]; omega), if_pos (by have := cellsAt_get owner places text N 0 hpos; rw [show ((0 : Nat) : Int) = 0 from rfl] at this; rw [this]; rfl)]
    rw [show k + 2 * (d + 1) = (k + 2 * d + 1) + 1 by omega]
    simp only [PCellCuts.cell_Join.j1]
    have hw : wrap64 (((cellsAt owner places text N).length : Int) - 1) = (N : Int) - 1 := by
      rw [cellsAt_len]
      have : N ≤ 100000 := by rw [hT]; unfold needP; omega
      unfold wrap64
      omega
    rw [hw]
    have hw1 : wrap64 ((i : Int) + 1) = ((i + 1 : Nat) : Int) := by
      have : N ≤ 100000 := by rw [hT]; unfold needP; omega
      unfold wrap64
      omega
    rw [hw1]
    have h1 : ((cellOf owner places text i).f1 != (i : Int)) = false := by simp [cellOf]
    rw [h1, if_neg (by decide)]
    have hlen : (text.take (242 * i)).length + (cellOf owner places text i).f3.length < 140737488355328 := by
      have : (cellOf owner places text i).f3.length ≤ 242 := by
        show (pieceOf text i).length ≤ 242
        unfold pieceOf
        rw [List.length_take]
        omega
      rw [List.length_take]
      omega
    have hacc : text.take (242 * i) ++ (cellOf owner places text i).f3 = text.take (242 * (i + 1)) := take_piece text i
    by_cases hl : i + 1 = N
    · have e1 : ((i : Int) == (N : Int) - 1) = true := by simp; omega
      have e2 : ((cellOf owner places text i).f2 == 0) = true := by
        show (nextOf places i == 0) = true
        unfold nextOf
        rw [if_neg (by omega)]
        rfl
      rw [e1, e2, if_neg (by decide), if_pos rfl, if_pos hlen, hacc]
      exact join_from owner places text N hN hT hpos hfew hok d (i + 1) k (by omega)
    · have e1 : ((i : Int) == (N : Int) - 1) = false := by simp; omega
      have e2 : ((cellOf owner places text i).f2 == 0) = false := by
        show (nextOf places i == 0) = false
        unfold nextOf
        rw [if_pos (by omega)]
        have := (okAt_iff (hok (i + 1) (by omega))).2.1
        simp
        intro e
        rw [List.getD_eq_getElem?_getD] at this
        omega
      rw [e1, e2, if_neg (by decide), if_neg (by decide), if_neg (by
        show ¬ ((pieceOf text i).length : Int) < 242
        unfold pieceOf
        rw [List.length_take, List.length_drop]
        unfold needP at hT
        omega), if_pos hlen, hacc]
      exact join_from owner places text N hN hT hpos hfew hok d (i + 1) k (by omega)
theorem join_cut (owner : Int) (places text : List Int) (hfew : text.length ≤ 100000) : ∃ k, PCellCuts.cell_Join.f k (cutP owner places text).1 = some (if (cutP owner places text).2 = 0 then text else [], decide ((cutP owner places text).2 = 0)) := by
  unfold cutP
  rw [if_neg (by omega)]
  by_cases h1 : places.length = 0 ∨ places.length ≠ needP text.length
  · rw [if_pos h1]
    exact ⟨1, rfl⟩
  · rw [if_neg h1]
    by_cases h2 : (List.range places.length).all (okAt owner places text) = true
    · rw [if_pos h2]
      refine ⟨0 + 2 * places.length + 1, ?_⟩
      unfold PCellCuts.cell_Join.f
      rw [cellsAt_len]
      have := join_from owner places text places.length rfl (by omega) (by omega) hfew (fun j hj => List.all_eq_true.1 h2 j (List.mem_range.2 hj)) places.length 0 0 (by omega)
      simpa using this
    · rw [if_neg h2]
      exact ⟨1, rfl⟩
end Cell
end Go.Proofs.YtclneeamemofoaaGreat
end
section
namespace Go.Proofs.YtclneeamemofoaaGreat
set_option linter.unusedVariables false
set_option linter.unusedSimpArgs false
open Go.RowKit Go.Proofs.YtclneeamemofoaaGreatW.PrintWords Go.Proofs.YtclneeamemofoaaGreatW.PrintLast Go.Proofs.YtclneeamemofoaaGreatW.PrintMore
namespace Cell
open Go.Num Go.Crc PCellGets PChain
theorem makeN (n : Nat) (hn : n ≤ 1000000) (l : List Int) (hl : l = List.replicate n 0) (W : World) : (Instr.makeSlice 39 (.int .i64 (n : Int)) (.int .i64 (n : Int))).run Tryz.prog W = .ok (.slice (some ⟨W.heap.size, 0, none⟩) n n) (W.alloc (.cells (u8s l).toArray 5)) := by
  have := make8 n hn W
  rw [made8] at this
  rw [hl]
  exact this
theorem rowV {k : IntKind} {w : World} {b t : Nat} {l : List Int} (hb : w.heap[b]? = some (.cells (l.map (Value.int k)).toArray t (0, 0))) (hl : l.length ≤ 1000000) : Kd.C (Kd.int k) w (some ⟨b, 0, none⟩) l.length l := by
  refine Kd.C_of_reads (enc := fun x => Value.int k x) (d := (0:Int)) (h1 := fun _ => rfl) ⟨rfl, by omega, fun _ => ⟨_, rfl, fun j hj => ?_⟩⟩
  have hadd : (⟨b, 0, none⟩ : Addr).add j = ⟨b, j, none⟩ := by unfold Addr.add; split <;> simp_all
  rw [hadd, cell_blk hb, List.getElem?_toArray, List.getElem?_map, List.getD_eq_getElem?_getD, List.getElem?_eq_getElem hj]
  rfl
end Cell
end Go.Proofs.YtclneeamemofoaaGreat
namespace Go.Proofs.YtclneeamemofoaaGreat
set_option linter.unusedVariables false
set_option linter.unusedSimpArgs false
open Go.RowKit Go.Proofs.YtclneeamemofoaaGreatW.PrintWords Go.Proofs.YtclneeamemofoaaGreatW.PrintLast Go.Proofs.YtclneeamemofoaaGreatW.PrintMore
namespace Cell
open Go.Num Go.Crc PCellGets PChain
end Cell
end Go.Proofs.YtclneeamemofoaaGreat
end
section
namespace Go.Proofs.YtclneeamemofoaaGreat
set_option linter.unusedVariables false
set_option linter.unusedSimpArgs false
open Go.RowKit Go.Proofs.YtclneeamemofoaaGreatW.PrintWords Go.Proofs.YtclneeamemofoaaGreatW.PrintLast Go.Proofs.YtclneeamemofoaaGreatW.PrintMore
namespace Cell
open Go.Num Go.Crc
theorem xneed_plain (n : Nat) (h : n ≤ 100000000) : PCellCuts.chantryref09_Need.f (n : Int) = some (needP n : Int) := need_plain n h
theorem xmay2_plain (o n x : Int) (d : List Int) : PCellCuts.chantryref09_may.f o n x d = some (cellOk o n x d) := xmay_plain o n x d
theorem piece_cut (text : List Int) (i : Nat) (e : Nat) (he : e = min (242 * (i + 1)) text.length) : (text.take e).drop (242 * i) = pieceOf text i := by
  unfold pieceOf
  rw [List.drop_take, he]
  by_cases h : 242 * (i + 1) ≤ text.length
  · rw [Nat.min_eq_left h]; congr 1; omega
  · rw [Nat.min_eq_right (by omega)]
    rw [List.take_of_length_le (by rw [List.length_drop]; omega), List.take_of_length_le (by rw [List.length_drop]; omega)]
theorem all_no (owner : Int) (places text : List Int) (N i : Nat) (hi : i < N) (h : ¬ okAt owner places text i = true) : ¬ (List.range N).all (okAt owner places text) = true := fun e => h (List.all_eq_true.1 e i (List.mem_range.2 hi))
theorem okAt_of {owner : Int} {places text : List Int} {j : Nat} (h : cellOk owner (j : Int) (nextOf places j) (pieceOf text j) = true) (h1 : 1 ≤ places.getD j 0) (h2 : places.getD j 0 ≤ 65535) : okAt owner places text j = true := by
  unfold okAt
  simp only [Bool.and_eq_true, decide_eq_true_eq]
  exact ⟨h, h1, h2⟩
theorem doc_from (owner : Int) (places text : List Int) (N : Nat) (hN : places.length = N) (hT : N = needP text.length) (hpos : 0 < N) (hfew : text.length ≤ 100000) :
    ∀ (d i k : Nat), i + d = N → (∀ j, j < i → okAt owner places text j = true) →
      PCellCuts.chantryref09_Cut.l0 (k + 2 * d + 1) owner places text (cellsAt owner places text i) (i : Int) = some (if (List.range N).all (okAt owner places text) = true then (cellsAt owner places text N, 0) else ([], 1))
  | 0, i, k, h, hok => by
    simp only [PCellCuts.chantryref09_Cut.l0]
    rw [if_neg (by omega), if_pos (List.all_eq_true.2 (fun j hj => hok j (by have := List.mem_range.1 hj; omega)))]
    rw [show i = N by omega]
  | d + 1, i, k, h, hok => by
    have hi : i < N := by omega
    have hT' : N = (text.length + 241) / 242 := hT
    have w1 : wrap64 ((i : Int) + 1) = ((i + 1 : Nat) : Int) := by unfold wrap64; omega
    have w2 : wrap64 (242 * ((i + 1 : Nat) : Int)) = ((242 * (i + 1) : Nat) : Int) := by unfold wrap64; omega
    have w3 : wrap64 (242 * (i : Int)) = ((242 * i : Nat) : Int) := by unfold wrap64; omega
    have e0 : ∀ (e : Nat), e = min (242 * (i + 1)) text.length → PCellCuts.chantryref09_Cut.j2 (k + 2 * d + 2) owner places text (cellsAt owner places text i) (i : Int) (e : Int) = some (if (List.range N).all (okAt owner places text) = true then (cellsAt owner places text N, 0) else ([], 1)) := by
      intro e he
      have he1 : 242 * i ≤ e := by omega
      have he2 : e ≤ text.length := by omega
      have hrd : rd places (i : Int) = places.getD i 0 := rfl
      have hstep : ∀ nx, nx = nextOf places i → ((PCellCuts.chantryref09_may.f owner (i : Int) nx (pieceOf text i)).bind fun t178 => (if t178 = true then (if 0 ≤ (i : Int) then (if (i : Int) < (places.length : Int) then (if (rd places (i : Int)) < 1 then (some (([] : List Ce), 1)) else (if (rd places (i : Int)) > 65535 then (some (([] : List Ce), 1)) else (if (cellsAt owner places text i).length < 2932031007402 then (PCellCuts.chantryref09_Cut.l0 (k + 2 * d + 1) owner places text (cellsAt owner places text i ++ [(⟨owner, (i : Int), nx, pieceOf text i⟩ : Ce)]) ((i + 1 : Nat) : Int)) else (none)))) else (none)) else (none)) else (some (([] : List Ce), 1)))) = some (if (List.range N).all (okAt owner places text) = true then (cellsAt owner places text N, 0) else ([], 1)) := by
        intro nx hnx
        rw [xmay2_plain, Option.bind_some]
        by_cases h1 : cellOk owner (i : Int) nx (pieceOf text i) = true
        · rw [if_pos h1, if_pos (by omega), if_pos (by omega), hrd]
          by_cases h2 : places.getD i 0 < 1
          · rw [if_pos h2, if_neg (all_no owner places text N i hi (fun e => by have := (okAt_iff e).2.1; omega))]
          · rw [if_neg h2]
            by_cases h3 : places.getD i 0 > 65535
            · rw [if_pos h3, if_neg (all_no owner places text N i hi (fun e => by have := (okAt_iff e).2.2; omega))]
            · rw [if_neg h3, if_pos (by rw [cellsAt_len]; omega)]
              have hk : okAt owner places text i = true := okAt_of (by rw [← hnx]; exact h1) (by omega) (by omega)
              rw [show cellsAt owner places text i ++ [(⟨owner, (i : Int), nx, pieceOf text i⟩ : Ce)] = cellsAt owner places text (i + 1) by rw [cellsAt_succ, hnx]; rfl]
              exact doc_from owner places text N hN hT hpos hfew d (i + 1) k (by omega) (fun j hj => if e : j = i then by rw [e]; exact hk else hok j (by omega))
        · rw [if_neg h1, if_neg (all_no owner places text N i hi (fun e => h1 (by rw [hnx]; exact (okAt_iff e).1)))]
      rw [show k + 2 * d + 2 = (k + 2 * d + 1) + 1 by omega]
      simp only [PCellCuts.chantryref09_Cut.j2]
      rw [w1, w3]
      simp only [Int.toNat_natCast]
      by_cases hl : i + 1 < N
      · rw [if_pos (by omega), if_pos (by omega), if_pos (by omega), if_pos (by omega), if_pos (by omega), Option.bind_some, piece_cut text i e he]
        exact hstep (rd places ((i + 1 : Nat) : Int)) (by unfold nextOf; rw [if_pos (by omega)]; rfl)
      · rw [if_neg (by omega), if_pos (by omega), if_pos (by omega), if_pos (by omega), Option.bind_some, piece_cut text i e he]
        exact hstep 0 (by unfold nextOf; rw [if_neg (by omega)])
    rw [show k + 2 * (d + 1) + 1 = (k + 2 * d + 2) + 1 by omega]
    simp only [PCellCuts.chantryref09_Cut.l0]
    rw [if_pos (by omega), w1, w2]
    by_cases hc : ((242 * (i + 1) : Nat) : Int) > (text.length : Int)
    · rw [if_pos hc]; exact e0 text.length (by omega)
    · rw [if_neg hc]; exact e0 (242 * (i + 1)) (by omega)
theorem doc_cut (owner : Int) (places text : List Int) (hfew : text.length ≤ 100000) : ∃ k, PCellCuts.chantryref09_Cut.f k owner places text = some (cutP owner places text) := by
  unfold cutP
  rw [if_neg (by omega)]
  have hf : ∀ k, PCellCuts.chantryref09_Cut.f (k + 1) owner places text = if (places.length : Int) = (needP text.length : Int) then PCellCuts.chantryref09_Cut.j0 (k + 1) owner places text ((places.length : Int) == 0) else PCellCuts.chantryref09_Cut.j0 (k + 1) owner places text true := fun k => by
    unfold PCellCuts.chantryref09_Cut.f
    rw [if_neg (by omega), xneed_plain _ (by omega), Option.bind_some]
  by_cases h1 : places.length = 0 ∨ places.length ≠ needP text.length
  · rw [if_pos h1]
    refine ⟨1, ?_⟩
    rw [hf 0]
    by_cases h2 : (places.length : Int) = (needP text.length : Int)
    · rw [if_pos h2, show ((places.length : Int) == 0) = true by rw [beq_iff_eq]; omega]
      rfl
    · rw [if_neg h2]
      rfl
  · rw [if_neg h1]
    refine ⟨(0 + 2 * places.length + 1) + 1, ?_⟩
    rw [hf, if_pos (by omega), show ((places.length : Int) == 0) = false by rw [beq_eq_false_iff_ne]; omega]
    simp only [PCellCuts.chantryref09_Cut.j0]
    rw [if_neg (by decide)]
    have := doc_from owner places text places.length rfl (by omega) (by omega) hfew places.length 0 0 (by omega) (fun j hj => by omega)
    exact this
end Cell
end Go.Proofs.YtclneeamemofoaaGreat
namespace Go.Proofs.YtclneeamemofoaaGreat
set_option linter.unusedVariables false
set_option linter.unusedSimpArgs false
open Go.RowKit Go.Proofs.YtclneeamemofoaaGreatW.PrintWords Go.Proofs.YtclneeamemofoaaGreatW.PrintLast Go.Proofs.YtclneeamemofoaaGreatW.PrintMore
namespace Cell
open Go.Num Go.Crc
end Cell
end Go.Proofs.YtclneeamemofoaaGreat
end
