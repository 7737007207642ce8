/- Part 4 of the proof of ChainWrites: lemmas alone. -/
import Derived.Test.YtclneeamemofoaaGreatZChainWritesP2
import Derived.OrdersIn
import Derived.RangeFuncCalls
section
namespace Go.Reg
set_option linter.unusedVariables false
set_option linter.unusedSimpArgs false
open Go
variable {P : Program} {ops : Array Oper} {md : Region.Mode} {C : World → Prop} {Q : Act → World → Prop} {ks : Nat → Kind}
theorem past_w {i k : Nat} {oi ok : Oper} (hi : ops[i]? = some oi) (hk : ops[k]? = some ok) (hsel : ∀ (j : Nat) (o : Oper) cs b, ops[j]? = some o → o.op ≠ .select cs b) (hki : k ≠ i) (hap : oi.apart ops ok = true)
    {CC : World → Prop} (hCC : ∀ w', C w' → CC w') {fuel : Nat} {listed : Array Bool} {a : Act} {w : World}
    (hfrom : ∀ (K : Bool → Act → World → Prop) a' w', opA P ops C ks true k K a' w' → ∃ u, YC P ops CC ok u a' ∧ K true (a'.put ok.dst u) w')
    (hrk : k ∈ Region.ready md ops listed) {u : Value} (hu : YC P ops CC ok u a)
    (H : oi.wp P a w (fun a' w' => cm C true w' ∧ wpA P md ops C ks Q (fuel + 1) (listed.setIfInBounds i true) true a' w') NoX) :
    oi.wp P (a.put ok.dst u) w (fun a' w' => cm C true w' ∧ wpA P md ops C ks Q fuel ((listed.setIfInBounds k true).setIfInBounds i true) true a' w') NoX := by
  obtain ⟨e1, e2, e3⟩ := Oper.apart_spec hap
  have hsi := fun cs b => hsel i oi cs b hi
  have hsk := fun cs b => hsel k ok cs b hk
  have fin : ∀ a2 w2, Out oi a a2 → cm C true w2 ∧ wpA P md ops C ks Q (fuel + 1) (listed.setIfInBounds i true) true a2 w2 → cm C true w2 ∧ wpA P md ops C ks Q fuel ((listed.setIfInBounds k true).setIfInBounds i true) true (a2.put ok.dst u) w2 := fun a2 w2 ho2 ⟨hc2, h2⟩ => by
    refine ⟨hc2, ?_⟩
    obtain ⟨u', hy', hk'⟩ := hfrom _ _ _ (h2.2 k (ready_mono hrk hki))
    have hua := hu.same (out_exec ho2 hsk e1) (out_wanted ho2 e1)
    have hcc := hCC w2 (hc2 rfl)
    have : u' = u := hua.det hcc hcc hy'
    subst this
    rw [Array.setIfInBounds_comm _ _ hki]
    exact hk'
  refine wp_to (execOp_put oi hsi a ok.dst u e3) H (fun v w2 h2 => ?_) (fun d w2 h2 => ?_)
  · rw [← Act.put_comm _ v u (fun d hd he => e2 d hd he)]
    exact fin _ _ (.inl ⟨_, rfl⟩) h2
  · rw [Act.put_defers, ← Act.put_comm _ undef u (fun d hd he => e2 d hd he)]
    exact fin _ _ (.inr ⟨_, rfl⟩) h2
theorem fork_ww {i j : Nat} {oi oj : Oper} {Di Dj : List Nat} (hi : ops[i]? = some oi) (hj : ops[j]? = some oj) (hij : i ≠ j) (hki : ks i = .w) (hkj : ks j = .w) (hsel : ∀ (j : Nat) (o : Oper) cs b, ops[j]? = some o → o.op ≠ .select cs b) :
    ∀ (fuel : Nat) (listed : Array Bool) (a : Act) (w : World), C w → Waits md ops listed i Di → Waits md ops listed j Dj →
      (∀ k ok, ops[k]? = some ok → k ≠ i → k ≠ j → k ∉ Di → k ∉ Dj → listed.getD k true = false → oi.apart ops ok = true ∧ oj.apart ops ok = true ∧ (ks k = .p ∨ ks k = .s)) →
      i ∈ Region.ready md ops listed → j ∈ Region.ready md ops listed → Region.wanted oi (yielded ops a.tmps) = true → Region.wanted oj (yielded ops a.tmps) = true →
      oi.wp P a w (fun a' w' => cm C true w' ∧ wpA P md ops C ks Q fuel (listed.setIfInBounds i true) true a' w') NoX →
      oj.wp P a w (fun a' w' => cm C true w' ∧ wpA P md ops C ks Q fuel (listed.setIfInBounds j true) true a' w') NoX → wpA P md ops C ks Q (fuel + 1) listed true a w := by
  have own : ∀ (x : Nat) (ox : Oper) (K : Bool → Act → World → Prop) (a : Act) (w : World), ops[x]? = some ox → ks x = .w → Region.wanted ox (yielded ops a.tmps) = true → ox.wp P a w (fun a' w' => cm C true w' ∧ K true a' w') NoX → opA P ops C ks true x K a w := fun x ox K a w hx hkx hw h => by
    unfold opA
    simp only [hx, hw, if_true, hkx]
    exact h
  intro fuel
  induction fuel with
  | zero =>
    intro listed a w hC hDi hDj _ hri hrj hwi hwj Hi Hj
    refine ⟨fun h => (by rw [h] at hri; cases hri), fun k hk => ?_⟩
    by_cases hki' : k = i
    · subst hki'; exact own _ _ _ _ _ hi hki hwi Hi
    · obtain ⟨a1, w1, _, _, h1⟩ := wp_exists Hi
      have := ready_mono hk hki'
      rw [h1.1] at this
      cases this
  | succ fuel ih =>
    intro listed a w hC hDi hDj hfree hri hrj hwi hwj Hi Hj
    refine ⟨fun h => (by rw [h] at hri; cases hri), fun k hk => ?_⟩
    by_cases hke : k = i
    · subst hke; exact own _ _ _ _ _ hi hki hwi Hi
    by_cases hkf : k = j
    · subst hkf; exact own _ _ _ _ _ hj hkj hwj Hj
    obtain ⟨hkun, ok, hok, hall⟩ := mem_ready.1 hk
    have hkDi := hDi.not_ready (mem_ready.1 hri).1 hk
    have hkDj := hDj.not_ready (mem_ready.1 hrj).1 hk
    obtain ⟨hapi, hapj, hkk⟩ := hfree k ok hok hke hkf hkDi hkDj hkun
    obtain ⟨e1, e2, e3⟩ := Oper.apart_spec hapi
    obtain ⟨f1, f2, f3⟩ := Oper.apart_spec hapj
    have hsk := fun cs b => hsel k ok cs b hok
    have hfree' : ∀ x ox, ops[x]? = some ox → x ≠ i → x ≠ j → x ∉ Di → x ∉ Dj → (listed.setIfInBounds k true).getD x true = false → oi.apart ops ox = true ∧ oj.apart ops ox = true ∧ (ks x = .p ∨ ks x = .s) := fun x ox hx h1 h2 h3 h4 hun => by
      refine hfree x ox hx h1 h2 h3 h4 ?_
      by_cases hkx : k = x
      · subst hkx; exact hkun
      · rw [getD_set_ne true hkx] at hun; exact hun
    obtain ⟨CC, hCC, hfrom, hto⟩ : ∃ CC : World → Prop, (∀ w', C w' → CC w') ∧
        (∀ (K : Bool → Act → World → Prop) a' w', opA P ops C ks true k K a' w' → ∃ u, YC P ops CC ok u a' ∧ K true (a'.put ok.dst u) w') ∧
        (∀ (K : Bool → Act → World → Prop) a' w' u, YC P ops CC ok u a' → K true (a'.put ok.dst u) w' → opA P ops C ks true k K a' w') := by
      rcases hkk with hkk | hkk
      · refine ⟨any, fun _ _ => trivial, fun K a' w' h => ?_, fun K a' w' u hu h => ?_⟩
        · unfold opA at h
          simp only [hok, hkk] at h
          by_cases hwk : Region.wanted ok (yielded ops a'.tmps) = true
          · rw [if_pos hwk] at h
            obtain ⟨u, hu, hn⟩ := h
            exact ⟨u, .inl ⟨hwk, hu⟩, hn⟩
          · rw [if_neg hwk] at h
            exact ⟨undef, .inr ⟨by simpa using hwk, rfl⟩, h⟩
        · unfold opA
          simp only [hok, hkk]
          rcases hu with ⟨hwk, hu⟩ | ⟨hwk, rfl⟩
          · rw [if_pos hwk]
            exact ⟨u, hu, h⟩
          · rw [if_neg (by rw [hwk]; simp)]
            exact h
      · refine ⟨C, fun _ h => h, fun K a' w' h => ?_, fun K a' w' u hu h => ?_⟩
        · unfold opA at h
          simp only [hok, hkk] at h
          by_cases hwk : Region.wanted ok (yielded ops a'.tmps) = true
          · rw [if_pos hwk] at h
            obtain ⟨_, u, hu, hn⟩ := h
            exact ⟨u, .inl ⟨hwk, hu⟩, hn⟩
          · rw [if_neg hwk] at h
            exact ⟨undef, .inr ⟨by simpa using hwk, rfl⟩, h⟩
        · unfold opA
          simp only [hok, hkk]
          rcases hu with ⟨hwk, hu⟩ | ⟨hwk, rfl⟩
          · rw [if_pos hwk]
            exact ⟨rfl, u, hu, h⟩
          · rw [if_neg (by rw [hwk]; simp)]
            exact h
    obtain ⟨a1, w1, ho1, hc1, h1⟩ := wp_exists Hi
    obtain ⟨u, hu, _⟩ := hfrom _ _ _ (h1.2 k (ready_mono hk hke))
    have hu' : YC P ops CC ok u a := hu.same (out_exec ho1 hsk e1).symm (out_wanted ho1 e1).symm
    refine hto _ _ _ u hu' ?_
    refine ih _ _ w hC (hDi.step hkDi) (hDj.step hkDj) hfree' (ready_mono hri (Ne.symm hke)) (ready_mono hrj (Ne.symm hkf)) ?_ ?_ ?_ ?_
    · rw [wanted_put oi a ok.dst u e3]; exact hwi
    · rw [wanted_put oj a ok.dst u f3]; exact hwj
    · exact past_w hi hok hsel hke hapi hCC hfrom hk hu' Hi
    · exact past_w hj hok hsel hkf hapj hCC hfrom hk hu' Hj
def pick (ops : Array Oper) (ord : List Nat) : List Oper := ord.filterMap (ops[·]?)
def ordB (md : Region.Mode) (ops : Array Oper) (ks : Nat → Kind) : List Nat → Array Bool → Bool
  | [], listed => (Region.ready md ops listed).isEmpty
  | k :: ord, listed => (Region.ready md ops listed).contains k && freeK md ops ks listed k (dset md ops k) && ordB md ops ks ord (listed.setIfInBounds k true)
theorem wpA_ord (hs : Region.noSelect ops = true) : ∀ (ord : List Nat) (listed : Array Bool) (m : Bool) (a : Act) (w : World), cm C m w →
    ordB md ops ks ord listed = true → wpLex P ops C Q (pick ops ord) (ord.map ks) m a w → wpA P md ops C ks Q ord.length listed m a w
  | [], _, _, _, _, _, hB, h => ⟨by simpa [ordB] using hB, h⟩
  | k :: ord, listed, m, a, w, hC, hB, h => by
    simp only [ordB, Bool.and_eq_true] at hB
    obtain ⟨⟨hr, hf⟩, hB'⟩ := hB
    have hsel := Region.noSelect_spec hs
    have hr' : k ∈ Region.ready md ops listed := by simpa using hr
    obtain ⟨_, o, h0, _⟩ := mem_ready.1 hr'
    have hpick : pick ops (k :: ord) = o :: pick ops ord := by simp [pick, h0]
    rw [hpick, List.map_cons] at h
    have hW := free_waits h0 hf
    have hA := free_apart h0 hf
    have next : ∀ m' a' w', cm C m' w' → wpLex P ops C Q (pick ops ord) (ord.map ks) m' a' w' → wpA P md ops C ks Q ord.length (listed.setIfInBounds k true) m' a' w' := fun m' a' w' hc hh => wpA_ord hs ord _ m' a' w' hc hB' hh
    simp only [wpLex, List.headD_cons, List.tail_cons] at h
    simp only [List.length_cons]
    by_cases hw : Region.wanted o (yielded ops a.tmps) = true
    · rw [if_pos hw] at h
      cases hkk : ks k with
      | p =>
        rw [hkk] at h
        obtain ⟨v, hv, hn⟩ := h
        refine first_s (Y := YC P ops any o v) (A := fun _ => True) (v := v) (D := dset md ops k) h0 (fun _ _ hy he hw => hy.same he hw) hsel (fun K m a w _ hc hy hk => ?_) ord.length listed m a w trivial hC hW (fun j oj hj hne hjD hun => ⟨(hA j oj hj hne hjD hun).1, fun _ => trivial⟩) hr' (.inl ⟨hw, hv⟩) (next _ _ _ hC hn)
        unfold opA
        simp only [h0, hkk]
        rcases hy with ⟨hwj, hu⟩ | ⟨hwj, rfl⟩
        · rw [if_pos hwj]
          exact ⟨v, hu, hk⟩
        · rw [if_neg (by rw [hwj]; simp)]
          exact hk
      | s =>
        rw [hkk] at h
        obtain ⟨hmt, v, hv, hn⟩ := h
        refine first_s (Y := YC P ops C o v) (A := fun m => m = true) (v := v) (D := dset md ops k) h0 (fun _ _ hy he hw => hy.same he hw) hsel (fun K m a w hm hc hy hk => ?_) ord.length listed m a w hmt hC hW (fun j oj hj hne hjD hun => ?_) hr' (.inl ⟨hw, hv⟩) (next _ _ _ hC hn)
        · unfold opA
          simp only [h0, hkk]
          rcases hy with ⟨hwj, hu⟩ | ⟨hwj, rfl⟩
          · rw [if_pos hwj]
            exact ⟨hm, v, hu, hk⟩
          · rw [if_neg (by rw [hwj]; simp)]
            exact hk
        · have h3 := hA j oj hj hne hjD hun
          refine ⟨h3.1, fun hx => ?_⟩
          have h4 := h3.2
          rw [hkk, hx] at h4
          cases h4
      | w =>
        rw [hkk] at h
        refine first_w (D := dset md ops k) h0 hsel (fun m => m) (fun m => .inl ⟨hkk, rfl⟩) ord.length listed m a w hC hW (fun j oj hj hne hjD hun => ?_) hr' hw ?_
        · have h3 := hA j oj hj hne hjD hun
          refine ⟨h3.1, ?_⟩
          have h4 := h3.2
          rw [hkk] at h4
          cases hkj : ks j with
          | p => exact .inl rfl
          | s => exact .inr ⟨rfl, hkk⟩
          | w => rw [hkj] at h4; cases h4
          | x => rw [hkj] at h4; cases h4
        · exact wp_any_mono h fun a' w' ⟨hc, hh⟩ => ⟨hc, next _ _ _ hc hh⟩
      | x =>
        rw [hkk] at h
        refine first_w (D := dset md ops k) h0 hsel (fun _ => false) (fun m => .inr ⟨hkk, rfl⟩) ord.length listed m a w hC hW (fun j oj hj hne hjD hun => ?_) hr' hw ?_
        · have h3 := hA j oj hj hne hjD hun
          refine ⟨h3.1, ?_⟩
          have h4 := h3.2
          rw [hkk] at h4
          cases hkj : ks j with
          | p => exact .inl rfl
          | s => rw [hkj] at h4; cases h4
          | w => rw [hkj] at h4; cases h4
          | x => rw [hkj] at h4; cases h4
        · exact wp_any_mono h fun a' w' hh => ⟨(fun e => by cases e), next _ _ _ (fun e => by cases e) hh⟩
    · rw [if_neg hw] at h
      have hw' : Region.wanted o (yielded ops a.tmps) = false := by simpa using hw
      refine first_s (Y := fun a => Region.wanted o (yielded ops a.tmps) = false) (A := fun _ => True) (v := undef) (D := dset md ops k) h0 (fun _ _ hy _ hw => hw.trans hy) hsel (fun K m a w _ hc hy hk => ?_) ord.length listed m a w trivial hC hW (fun j oj hj hne hjD hun => ⟨(hA j oj hj hne hjD hun).1, fun _ => trivial⟩) hr' hw' (next _ _ _ hC h)
      unfold opA
      simp only [h0]
      rw [if_neg (by rw [hy]; simp)]
      exact hk
def freeBut (md : Region.Mode) (ops : Array Oper) (ks : Nat → Kind) (listed : Array Bool) (k j : Nat) (Dk Dj : List Nat) : Bool :=
  match ops[k]? with
  | none => false
  | some o =>
    Dk.all (fun x => !listed.getD x true && hasEdge md ops k Dk x) &&
    (List.range ops.size).all fun x => x == k || x == j || listed.getD x true || Dk.contains x || Dj.contains x ||
      (match ops[x]? with
       | none => true
       | some ox => o.apart ops ox && (ks x == .p || ks x == .s))
def forkB (md : Region.Mode) (ops : Array Oper) (ks : Nat → Kind) (k j : Nat) (t1 t2 : List Nat) : List Nat → Array Bool → Bool
  | [], listed => k != j && (Region.ready md ops listed).contains k && (Region.ready md ops listed).contains j && (ks k == .w) && (ks j == .w) && freeBut md ops ks listed k j (dset md ops k) (dset md ops j) && freeBut md ops ks listed j k (dset md ops j) (dset md ops k) &&
      ordB md ops ks t1 (listed.setIfInBounds k true) && ordB md ops ks t2 (listed.setIfInBounds j true) && (t1.length == t2.length)
  | x :: pre, listed => (Region.ready md ops listed).contains x && (ks x == .p || ks x == .s) && freeK md ops ks listed x (dset md ops x) && forkB md ops ks k j t1 t2 pre (listed.setIfInBounds x true)
theorem freeBut_spec {k j : Nat} {ok : Oper} {listed : Array Bool} {Dk Dj : List Nat} (hk : ops[k]? = some ok) (h : freeBut md ops ks listed k j Dk Dj = true) :
    Waits md ops listed k Dk ∧ ∀ x ox, ops[x]? = some ox → x ≠ k → x ≠ j → x ∉ Dk → x ∉ Dj → listed.getD x true = false → ok.apart ops ox = true ∧ (ks x = .p ∨ ks x = .s) := by
  simp only [freeBut, hk, Bool.and_eq_true, List.all_eq_true, List.mem_range] at h
  refine ⟨fun x hx => ?_, fun x ox hx h1 h2 h3 h4 h5 => ?_⟩
  · have h1 := h.1 x hx
    simp only [Bool.not_eq_true'] at h1
    refine ⟨h1.1, ?_⟩
    have h2 := h1.2
    unfold hasEdge at h2
    split at h2
    · rename_i oj hoj
      obtain ⟨e, he, hb⟩ := Array.any_eq_true'.1 h2
      simp only [Bool.and_eq_true, Bool.or_eq_true, beq_iff_eq, List.contains_iff_mem] at hb
      exact ⟨oj, hoj, e, he, hb.1, hb.2⟩
    · cases h2
  · have h6 := h.2 x (Array.getElem?_eq_some_iff.1 hx).1
    simpa only [hx, Bool.or_eq_true, beq_iff_eq, h1, h2, false_or, h5, Bool.false_eq_true, List.contains_iff_mem, h3, h4, Bool.and_eq_true] using h6
theorem wpA_fork (hs : Region.noSelect ops = true) {k j : Nat} {t1 t2 : List Nat} : ∀ (pre : List Nat) (listed : Array Bool) (a : Act) (w : World), C w →
    forkB md ops ks k j t1 t2 pre listed = true →
    wpLex P ops C (fun a' w' => wpLex P ops C Q (pick ops (k :: t1)) ((k :: t1).map ks) true a' w' ∧ wpLex P ops C Q (pick ops (j :: t2)) ((j :: t2).map ks) true a' w' ∧ (∀ o, ops[k]? = some o ∨ ops[j]? = some o → Region.wanted o (yielded ops a'.tmps) = true)) (pick ops pre) (pre.map ks) true a w →
    wpA P md ops C ks Q (pre.length + (t1.length + 1)) listed true a w
  | [], listed, a, w, hC, hB, h => by
    simp only [forkB, Bool.and_eq_true] at hB
    obtain ⟨⟨⟨⟨⟨⟨⟨⟨⟨hne, hrk⟩, hrj⟩, hkk⟩, hkj⟩, hfk⟩, hfj⟩, hb1⟩, hb2⟩, hlen⟩ := hB
    have hsel := Region.noSelect_spec hs
    have hrk' : k ∈ Region.ready md ops listed := by simpa using hrk
    have hrj' : j ∈ Region.ready md ops listed := by simpa using hrj
    obtain ⟨_, ok, hok, _⟩ := mem_ready.1 hrk'
    obtain ⟨_, oj, hoj, _⟩ := mem_ready.1 hrj'
    have hkk' : ks k = .w := by simpa using hkk
    have hkj' : ks j = .w := by simpa using hkj
    obtain ⟨hWk, hAk⟩ := freeBut_spec hok hfk
    obtain ⟨hWj, hAj⟩ := freeBut_spec hoj hfj
    have hlen' : t1.length = t2.length := by simpa using hlen
    simp only [pick, List.filterMap_nil, List.map_nil, wpLex] at h
    obtain ⟨h1, h2, hw⟩ := h
    have hwk := hw ok (.inl hok)
    have hwj := hw oj (.inr hoj)
    have p1 : pick ops (k :: t1) = ok :: pick ops t1 := by simp [pick, hok]
    have p2 : pick ops (j :: t2) = oj :: pick ops t2 := by simp [pick, hoj]
    change wpLex P ops C Q (pick ops (k :: t1)) _ _ _ _ at h1
    change wpLex P ops C Q (pick ops (j :: t2)) _ _ _ _ at h2
    rw [p1, List.map_cons, hkk'] at h1
    rw [p2, List.map_cons, hkj'] at h2
    simp only [wpLex, List.headD_cons, List.tail_cons] at h1 h2
    rw [if_pos hwk] at h1
    rw [if_pos hwj] at h2
    have hne' : k ≠ j := by simpa using hne
    simp only [List.length_nil, Nat.zero_add]
    refine fork_ww (Di := dset md ops k) (Dj := dset md ops j) hok hoj hne' hkk' hkj' hsel t1.length listed a w hC hWk hWj (fun x ox hx g1 g2 g3 g4 g5 => ⟨(hAk x ox hx g1 g2 g3 g4 g5).1, (hAj x ox hx g2 g1 g4 g3 g5).1, (hAk x ox hx g1 g2 g3 g4 g5).2⟩) hrk' hrj' hwk hwj ?_ ?_
    · exact wp_any_mono h1 fun a' w' ⟨hc, hh⟩ => ⟨hc, wpA_ord hs t1 _ _ _ _ hc hb1 hh⟩
    · refine wp_any_mono h2 fun a' w' ⟨hc, hh⟩ => ⟨hc, ?_⟩
      rw [hlen']
      exact wpA_ord hs t2 _ _ _ _ hc hb2 hh
  | x :: pre, listed, a, w, hC, hB, h => by
    simp only [forkB, Bool.and_eq_true] at hB
    obtain ⟨⟨⟨hr, hkx⟩, hf⟩, hB'⟩ := hB
    have hsel := Region.noSelect_spec hs
    have hr' : x ∈ Region.ready md ops listed := by simpa using hr
    obtain ⟨_, o, h0, _⟩ := mem_ready.1 hr'
    have hpick : pick ops (x :: pre) = o :: pick ops pre := by simp [pick, h0]
    have hm : (x :: pre).map ks = ks x :: pre.map ks := rfl
    rw [hpick, hm] at h
    have hW := free_waits h0 hf
    have hA := free_apart h0 hf
    have next : ∀ a', wpLex P ops C (fun a' w' => wpLex P ops C Q (pick ops (k :: t1)) ((k :: t1).map ks) true a' w' ∧ wpLex P ops C Q (pick ops (j :: t2)) ((j :: t2).map ks) true a' w' ∧ (∀ o, ops[k]? = some o ∨ ops[j]? = some o → Region.wanted o (yielded ops a'.tmps) = true)) (pick ops pre) (pre.map ks) true a' w → wpA P md ops C ks Q (pre.length + (t1.length + 1)) (listed.setIfInBounds x true) true a' w := fun a' hh => wpA_fork hs pre _ a' w hC hB' hh
    simp only [wpLex, List.headD_cons, List.tail_cons] at h
    rw [List.length_cons, show pre.length + 1 + (t1.length + 1) = pre.length + (t1.length + 1) + 1 by omega]
    by_cases hw : Region.wanted o (yielded ops a.tmps) = true
    · rw [if_pos hw] at h
      have hkx' : ks x = .p ∨ ks x = .s := by simpa using hkx
      rcases hkx' with hkk | hkk
      · rw [hkk] at h
        obtain ⟨v, hv, hn⟩ := h
        refine first_s (Y := YC P ops any o v) (A := fun _ => True) (v := v) (D := dset md ops x) h0 (fun _ _ hy he hw => hy.same he hw) hsel (fun K m a w _ hc hy hk => ?_) _ listed true a w trivial (fun _ => hC) hW (fun j oj hj hne hjD hun => ⟨(hA j oj hj hne hjD hun).1, fun _ => trivial⟩) hr' (.inl ⟨hw, hv⟩) (next _ hn)
        unfold opA
        simp only [h0, hkk]
        rcases hy with ⟨hwj, hu⟩ | ⟨hwj, rfl⟩
        · rw [if_pos hwj]
          exact ⟨v, hu, hk⟩
        · rw [if_neg (by rw [hwj]; simp)]
          exact hk
      · rw [hkk] at h
        obtain ⟨hmt, v, hv, hn⟩ := h
        refine first_s (Y := YC P ops C o v) (A := fun m => m = true) (v := v) (D := dset md ops x) h0 (fun _ _ hy he hw => hy.same he hw) hsel (fun K m a w hm hc hy hk => ?_) _ listed true a w rfl (fun _ => hC) hW (fun j oj hj hne hjD hun => ?_) hr' (.inl ⟨hw, hv⟩) (next _ hn)
        · unfold opA
          simp only [h0, hkk]
          rcases hy with ⟨hwj, hu⟩ | ⟨hwj, rfl⟩
          · rw [if_pos hwj]
            exact ⟨hm, v, hu, hk⟩
          · rw [if_neg (by rw [hwj]; simp)]
            exact hk
        · have h3 := hA j oj hj hne hjD hun
          refine ⟨h3.1, fun hx => ?_⟩
          have h4 := h3.2
          rw [hkk, hx] at h4
          cases h4
    · rw [if_neg hw] at h
      have hw' : Region.wanted o (yielded ops a.tmps) = false := by simpa using hw
      refine first_s (Y := fun a => Region.wanted o (yielded ops a.tmps) = false) (A := fun _ => True) (v := undef) (D := dset md ops x) h0 (fun _ _ hy _ hw => hw.trans hy) hsel (fun K m a w _ hc hy hk => ?_) _ listed true a w trivial (fun _ => hC) hW (fun j oj hj hne hjD hun => ⟨(hA j oj hj hne hjD hun).1, fun _ => trivial⟩) hr' hw' (next _ h)
      unfold opA
      simp only [h0]
      rw [if_neg (by rw [hy]; simp)]
      exact hk
theorem region_fork {id : Nat} {Q : Exit → Act → World → Prop} {a : Act} {w : World} {l : List Oper} (C0 : World → Prop) (kl : List Kind) (pre : List Nat) (k j : Nat) (t1 t2 : List Nat) (hm : P.follows .mixedOrders = true)
    (hB : (Region.noSelect l.toArray && forkB .any l.toArray (fun i => kl.getD i .p) k j t1 t2 pre (Array.replicate l.toArray.size false) && (pre.length + (t1.length + 1) == l.toArray.size)) = true)
    (hC : C0 w.drew) (h : Nonempty (In C0) → wpLex P l.toArray (fun w' => ∃ m : In C0, w' = m.w) (fun a' w' =>
      wpLex P l.toArray (fun w' => ∃ m : In C0, w' = m.w) (fun a' w' => Q .normal a' w') (pick l.toArray (k :: t1)) ((k :: t1).map fun i => kl.getD i .p) true a' w' ∧
      wpLex P l.toArray (fun w' => ∃ m : In C0, w' = m.w) (fun a' w' => Q .normal a' w') (pick l.toArray (j :: t2)) ((j :: t2).map fun i => kl.getD i .p) true a' w' ∧
      (∀ o, l.toArray[k]? = some o ∨ l.toArray[j]? = some o → Region.wanted o (yielded l.toArray a'.tmps) = true)) (pick l.toArray pre) (pre.map fun i => kl.getD i .p) true a w.drew) : (Code.region id l.toArray true).wp P Q a w := by
  simp only [Bool.and_eq_true, beq_iff_eq] at hB
  obtain ⟨⟨hB1, hB2⟩, hB3⟩ := hB
  refine wp_region_any hm (wpAny_of_A (C := fun w' => ∃ m : In C0, w' = m.w) (ks := fun i => kl.getD i .p) (Q := fun a' w' => Q .normal a' w') (fun _ _ h => h) _ _ true _ _ (fun _ => cls_mk hC) ?_)
  have := wpA_fork (md := .any) (Q := fun a' w' => Q .normal a' w') (ks := fun i => kl.getD i .p) hB1 pre (Array.replicate l.toArray.size false) a w.drew (cls_mk hC) hB2 (h ⟨⟨_, hC⟩⟩)
  rw [hB3] at this
  exact this
end Go.Reg
namespace Go.Reg
set_option linter.unusedVariables false
set_option linter.unusedSimpArgs false
open Go
variable {P : Program} {ops : Array Oper} {md : Region.Mode} {C : World → Prop} {Q : Act → World → Prop} {ks : Nat → Kind}
end Go.Reg
end
