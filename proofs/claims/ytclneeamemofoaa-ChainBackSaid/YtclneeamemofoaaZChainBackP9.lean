/- Part 10 of the proof of ChainBack: lemmas alone. -/
import Derived.Test.YtclneeamemofoaaZChainBackP0
import Derived.Test.YtclneeamemofoaaZChainBackP5
import Derived.Below
import Derived.Lib.Hide
import Derived.OwnWalk
import Derived.WalkKit
import Derived.KernelRfl
import Derived.RowKit3
import Derived.Deep.LoopGhost
import Derived.Deep.QuietTactic
import Derived.BigQuiet
import Derived.WideLaws
import Derived.Great.BuildSlice
import Derived.Outline
import Derived.Deep.DeepCutAuto
import Derived.WalkSpells
import Derived.RegionTactic
import Derived.BigRegion
import Derived.WalkLawsBesides
import Derived.IntWalk
section
namespace Go.Proofs.Ytclneeamemofoaa
set_option linter.unusedVariables false
set_option linter.unusedSimpArgs false
open Go.RowKit Go.Proofs.YtclneeamemofoaaW.PrintWords Go.Proofs.YtclneeamemofoaaW.PrintLast Go.Proofs.YtclneeamemofoaaW.PrintMore
namespace Cell
open Go.Num Go.Crc PCellGets PChain
theorem wid (z : Int) (h0 : -9223372036854775808 ≤ z) (h1 : z ≤ 9223372036854775807) : wrap64 z = z := by
  unfold wrap64
  omega
theorem is_plain (n : Int) : num_is.f n = some (decide (0 ≤ n ∧ n ≤ 2147483647)) := by
  unfold num_is.f
  by_cases h : n ≥ 0
  · rw [if_pos h]
    congr 1
    simp [h]
  · rw [if_neg h]
    congr 1
    simp
    omega
theorem or_low (x y : Int) (k : Nat) (hk : k ≤ 32) (hx : 0 ≤ x ∧ x < 2 ^ k) (hy : 0 ≤ y ∧ y ≤ 255) : Go.bits .or .i64 x (shl .i64 y (k : Int)) = x + y * 2 ^ k := by
  obtain ⟨n, rfl⟩ := Int.eq_ofNat_of_zero_le hx.1
  obtain ⟨m, rfl⟩ := Int.eq_ofNat_of_zero_le hy.1
  have hn : n < 2 ^ k := by have := hx.2; exact_mod_cast this
  have h40 : m * 2 ^ k < 2 ^ 40 := by
    have h1 : m * 2 ^ k ≤ 255 * 2 ^ k := Nat.mul_le_mul_right _ (by omega)
    have h2 : (2 : Nat) ^ k ≤ 2 ^ 32 := Nat.pow_le_pow_right (by omega) hk
    omega
  have hn40 : n < 2 ^ 40 := Nat.lt_of_lt_of_le hn (Nat.pow_le_pow_right (by omega) (by omega))
  have hs : shl .i64 (m : Int) (k : Int) = ((m * 2 ^ k : Nat) : Int) := by
    unfold shl
    rw [Int.toNat_natCast, Nat.min_eq_left (show k ≤ IntKind.bits .i64 by show k ≤ 64; omega)]
    rw [show (m : Int) * 2 ^ k = ((m * 2 ^ k : Nat) : Int) by simp]
    exact IntWalk.i64_in _ (by omega)
  rw [hs]
  unfold Go.bits
  simp only
  show IntKind.wrap .i64 ((BitVec.ofInt 64 (n : Int) ||| BitVec.ofInt 64 ((m * 2 ^ k : Nat) : Int)).toNat : Int) = _
  rw [BitVec.toNat_or, BitVec.ofInt_natCast, BitVec.ofInt_natCast, BitVec.toNat_ofNat, BitVec.toNat_ofNat, Nat.mod_eq_of_lt (by omega), Nat.mod_eq_of_lt (by omega)]
  have ho : n ||| m * 2 ^ k = m * 2 ^ k + n := by rw [Nat.or_comm, Nat.mul_comm, Nat.two_pow_add_eq_or_of_lt hn]
  rw [ho]
  rw [show ((m * 2 ^ k + n : Nat) : Int) = (n : Int) + (m : Int) * 2 ^ k by simp; omega]
  refine IntWalk.i64_in _ ?_
  have : (m : Int) * 2 ^ k = ((m * 2 ^ k : Nat) : Int) := by simp
  rw [this]
  omega
end Cell
end Go.Proofs.Ytclneeamemofoaa
end
section
namespace Go.Proofs.Ytclneeamemofoaa
set_option linter.unusedVariables false
set_option linter.unusedSimpArgs false
open Go.RowKit Go.Proofs.YtclneeamemofoaaW.PrintWords Go.Proofs.YtclneeamemofoaaW.PrintLast Go.Proofs.YtclneeamemofoaaW.PrintMore
namespace Cell
open Go.Num Go.Crc PCellGets PChain
theorem bits_xor32 (x y : Int) : Go.bits .xor .u32 x y = ((b32 x ^^^ b32 y).toNat : Int) := by
  unfold Go.bits
  simp only
  show IntKind.wrap .u32 ((BitVec.ofInt 32 x ^^^ BitVec.ofInt 32 y).toNat : Int) = _
  have h := (b32 x ^^^ b32 y).isLt
  rw [IntKind.wrap_u32]
  show ((b32 x ^^^ b32 y).toNat : Int) % 4294967296 = _
  omega
theorem bits_and32 (x y : Int) : Go.bits .and .u32 x y = ((b32 x &&& b32 y).toNat : Int) := by
  unfold Go.bits
  simp only
  show IntKind.wrap .u32 ((BitVec.ofInt 32 x &&& BitVec.ofInt 32 y).toNat : Int) = _
  have h := (b32 x &&& b32 y).isLt
  rw [IntKind.wrap_u32]
  show ((b32 x &&& b32 y).toNat : Int) % 4294967296 = _
  omega
theorem lsb_odd (c : BitVec 32) : c.getLsbD 0 = decide (c.toNat % 2 = 1) := by
  rw [BitVec.getLsbD, Nat.testBit_zero]
def sealB (l : List Int) : List Int := l ++ leB (sum l) 4
theorem seal_len (l : List Int) : (sealB l).length = l.length + 4 := by unfold sealB; rw [List.length_append, leB_len]
theorem seal_byte {l : List Int} (hb : ∀ x ∈ l, 0 ≤ x ∧ x ≤ 255) : ∀ x ∈ sealB l, 0 ≤ x ∧ x ≤ 255 := by
  intro x hx
  rcases List.mem_append.1 hx with h | h
  · exact hb x h
  · exact leB_byte _ _ x h
theorem or_lit (x y : Int) (k : Nat) (hk : k ≤ 32) (hx : 0 ≤ x ∧ x < 2 ^ k) (hy : 0 ≤ y ∧ y ≤ 255) (z : Int) (hz : z = (k : Int)) : Go.bits .or .i64 x (shl .i64 y z) = x + y * 2 ^ k := by subst hz; exact or_low x y k hk hx hy
theorem unfix_yes (k : Nat) (l : List Int) (h : ∀ x ∈ l, 0 ≤ x ∧ x ≤ 255) (hl : 1 ≤ l.length ∧ l.length ≤ 4) : num_Unfix.j0 (k + 7) l false = some (if 2147483647 < unB l then (0, 5) else (unB l, 0)) := by
  have fin : ∀ x : Int, 0 ≤ x → ((num_is.f x).bind fun t149 => if t149 = true then some (x, (0 : Int)) else some (0, 5)) = some (if 2147483647 < x then (0, 5) else (x, 0)) := fun x hx => by
    rw [is_plain]
    show (if decide (0 ≤ x ∧ x ≤ 2147483647) = true then some (x, (0 : Int)) else some (0, 5)) = _
    by_cases hh : 2147483647 < x
    · rw [if_pos hh, if_neg (by simp; omega)]
    · rw [if_neg hh, if_pos (by simp; omega)]
  match l, hl with
  | [a], _ =>
    have ha := h a (by simp)
    simp [num_Unfix.j0, num_Unfix.l0, unB, rd, wid]
    simp only [wid a (by omega) (by omega)]
    rw [or_lit 0 a 0 (by omega) (by omega) ha 0 rfl]
    rw [show (0 : Int) + a * 2 ^ 0 = a by omega]
    exact fin _ (by omega)
  | [a, b], _ =>
    have ha := h a (by simp); have hb := h b (by simp)
    simp [num_Unfix.j0, num_Unfix.l0, unB, rd, wid]
    simp only [wid a (by omega) (by omega), wid b (by omega) (by omega)]
    rw [or_lit 0 a 0 (by omega) (by omega) ha 0 rfl, or_lit _ b 8 (by omega) (by omega) hb 8 rfl]
    rw [show (0 : Int) + a * 2 ^ 0 + b * 2 ^ 8 = a + 256 * b by omega]
    exact fin _ (by omega)
  | [a, b, c], _ =>
    have ha := h a (by simp); have hb := h b (by simp); have hc := h c (by simp)
    simp [num_Unfix.j0, num_Unfix.l0, unB, rd, wid]
    simp only [wid a (by omega) (by omega), wid b (by omega) (by omega), wid c (by omega) (by omega)]
    rw [or_lit 0 a 0 (by omega) (by omega) ha 0 rfl, or_lit _ b 8 (by omega) (by omega) hb 8 rfl, or_lit _ c 16 (by omega) (by omega) hc 16 rfl]
    rw [show (0 : Int) + a * 2 ^ 0 + b * 2 ^ 8 + c * 2 ^ 16 = a + 256 * (b + 256 * c) by omega]
    exact fin _ (by omega)
  | [a, b, c, d], _ =>
    have ha := h a (by simp); have hb := h b (by simp); have hc := h c (by simp); have hd := h d (by simp)
    simp [num_Unfix.j0, num_Unfix.l0, unB, rd, wid]
    simp only [wid a (by omega) (by omega), wid b (by omega) (by omega), wid c (by omega) (by omega), wid d (by omega) (by omega)]
    rw [or_lit 0 a 0 (by omega) (by omega) ha 0 rfl, or_lit _ b 8 (by omega) (by omega) hb 8 rfl, or_lit _ c 16 (by omega) (by omega) hc 16 rfl, or_lit _ d 24 (by omega) (by omega) hd 24 rfl]
    rw [show (0 : Int) + a * 2 ^ 0 + b * 2 ^ 8 + c * 2 ^ 16 + d * 2 ^ 24 = a + 256 * (b + 256 * (c + 256 * d)) by omega]
    exact fin _ (by omega)
theorem unfix_plain (k : Nat) (l : List Int) (h : ∀ x ∈ l, 0 ≤ x ∧ x ≤ 255) : num_Unfix.f (k + 7) l = some (unfixP l) := by
  unfold num_Unfix.f unfixP
  have hno : num_Unfix.j0 (k + 7) l true = some (0, 1) := by simp only [num_Unfix.j0]; rfl
  by_cases h1 : l.length < 1
  · rw [if_pos (by omega), if_pos (.inl h1), hno]
  rw [if_neg (by omega)]
  by_cases h4 : 4 < l.length
  · rw [decide_eq_true (by omega), if_pos (.inr h4), hno]
  · rw [decide_eq_false (by omega), if_neg (by omega)]
    exact unfix_yes k l h (by omega)
theorem equal_l (a b : List Int) (hl : a.length = b.length) (hm : a.length ≤ 1000000) : ∀ (d i k : Nat), i + d = a.length → a.take i = b.take i → slices_Equal_byte_byte.l0 (k + d + 1) a b (a.length : Int) (i : Int) = some (decide (a = b))
  | 0, i, k, h, he => by
    simp only [slices_Equal_byte_byte.l0]
    rw [if_neg (by omega)]
    have : a = b := by rw [List.take_of_length_le (by omega), List.take_of_length_le (by omega)] at he; exact he
    rw [decide_eq_true this]
  | d + 1, i, k, h, he => by
    have hi : i < a.length := by omega
    have hj : i < b.length := by omega
    have ra : rd a (i : Int) = a[i] := by unfold rd; rw [Int.toNat_natCast, List.getD_eq_getElem?_getD, List.getElem?_eq_getElem hi]; rfl
    have rb : rd b (i : Int) = b[i] := by unfold rd; rw [Int.toNat_natCast, List.getD_eq_getElem?_getD, List.getElem?_eq_getElem hj]; rfl
    rw [show k + (d + 1) + 1 = (k + d + 1) + 1 by omega]
    simp only [slices_Equal_byte_byte.l0]
    rw [if_pos (by omega), if_pos (by omega), if_pos (by omega), if_pos (by omega), ra, rb]
    by_cases hx : a[i] = b[i]
    · rw [if_pos hx, wid _ (by omega) (by omega), show (i : Int) + 1 = ((i + 1 : Nat) : Int) by omega]
      exact equal_l a b hl hm d (i + 1) k (by omega) (by rw [List.take_succ_eq_append_getElem hi, List.take_succ_eq_append_getElem hj, he, hx])
    · rw [if_neg hx, decide_eq_false (fun e => hx (by subst e; rfl))]
theorem equal_plain (a b : List Int) (k : Nat) (hm : a.length ≤ 1000000) : slices_Equal_byte_byte.f (k + a.length + 1) a b = some (decide (a = b)) := by
  unfold slices_Equal_byte_byte.f
  by_cases hl : a.length = b.length
  · rw [if_pos (by omega)]
    exact equal_l a b hl hm a.length 0 k (by omega) rfl
  · rw [if_neg (by omega), decide_eq_false (fun e => hl (by rw [e]))]
end Cell
end Go.Proofs.Ytclneeamemofoaa
end
section
namespace Go.Proofs.Ytclneeamemofoaa
set_option linter.unusedVariables false
set_option linter.unusedSimpArgs false
open Go.RowKit Go.Proofs.YtclneeamemofoaaW.PrintWords Go.Proofs.YtclneeamemofoaaW.PrintLast Go.Proofs.YtclneeamemofoaaW.PrintMore
namespace Cell
open Go.Num Go.Crc PCellGets PChain
def bytesN (n : Int) : List Int := [n % 256, n / 256 % 256, n / 65536 % 256, n / 16777216 % 256]
theorem leB2_eq (n : Int) : leB n 2 = [n % 256, n / 256 % 256] := rfl
theorem leB4_eq (n : Int) : leB n 4 = [n % 256, n / 256 % 256, n / 65536 % 256, n / 16777216 % 256] := by
  simp only [leB, List.cons.injEq, and_true, true_and]
  exact ⟨by omega, by omega⟩
theorem infoU8 : (Try.prog.info? 5).map (fun i => (i.zero, i.size, i.bytes)) = some (some (.int .u8 0), 1, 1) := by kernel_rfl
theorem cell_blk {w : World} {b k t : Nat} {cs : Array Value} (h : w.heap[b]? = some (.cells cs t (0, 0))) : w.cell? ⟨b, k, none⟩ = cs[k]? := blk_cell h k
theorem frozen_blk {w : World} {b k t : Nat} {cs : Array Value} (h : w.heap[b]? = some (.cells cs t (0, 0))) : w.frozen? ⟨b, k, none⟩ = false := blk_frozen h k
theorem row_at {w : World} {base : Nat} {ok : Nat → Prop} {A : Option Addr} {l c : Nat} {xs : List Int} (h : Kd.R (Kd.int .u8) 5 w base ok (.slice A l c) xs) : Kd.C (Kd.int .u8) w A xs.length xs := (Kd.R_reads' h).2.2
theorem row_of {w : World} {base g cap : Nat} {ok : Nat → Prop} {xs : List Int} {sp : List Value} (hb : w.heap[g]? = some (.cells (xs.map (Value.int .u8) ++ sp).toArray 5 (0, 0))) (hbase : base ≤ g) (hok : ok g) (hc : xs.length + sp.length = cap) (hm : cap ≤ 9223372036854775807) : Kd.R (Kd.int .u8) 5 w base ok (.slice (some ⟨g, 0, none⟩) xs.length cap) xs := by
  refine Kd.R_of_own (enc := Value.int .u8) ?_ (fun k hk => ?_)
  · refine ⟨by simp [encs], .inr ⟨g, cap, _, rfl, hbase, hb, by omega, hm, by simp; omega, ?_⟩⟩
    simp [encs]
  · obtain rfl : g = k := by simpa [Value.ownBlock] using hk
    exact hok
theorem make8 (m : Nat) (hm : m ≤ 1000000) (W : World) : (Instr.makeSlice 23 (.int .i64 (m : Int)) (.int .i64 (m : Int))).run Try.prog W = .ok (.slice (some ⟨W.heap.size, 0, none⟩) m m) (W.alloc (.cells (madeCells #[.int .u8 0] m) 5)) :=
  print_make 23 5 .u8 1 Try.underlying23 infoU8 (by decide) m (by omega) W
theorem made8 (m : Nat) : madeCells #[.int .u8 0] m = ((List.replicate m (0 : Int)).map (Value.int .u8)).toArray := by
  apply Array.ext
  · rw [size_madeCells]; simp
  · intro i h1 h2
    rw [size_madeCells] at h1
    simp [madeCells, Nat.mod_one]
set_option maxHeartbeats 8000000 in
set_option maxRecDepth 100000 in
theorem fix2_any (n : Int) (w : World) (hn : -9223372036854775808 ≤ n ∧ n ≤ 9223372036854775807) :
    Calls Try.prog 31 #[.int .i64 n, .int .i64 2] w fun e w' => ∃ v, e = .returned (.tuple #[v, .int .i64 (fixP n 2).2]) ∧ Kd.R (Kd.int .u8) 5 w' w.heap.size (fun _ => True) v (fixP n 2).1 ∧ Below w.heap.size w w' := by
  by_cases h0 : 0 ≤ n ∧ n ≤ 2147483647
  · by_cases hL : n < 65536
    · have hf : fixP n 2 = (leB n 2, 0) := by unfold fixP; rw [if_neg (by rw [show (256 : Int) ^ ((2 : Int)).toNat = 65536 from by decide]; omega)]; rfl
      rw [hf]
      have hmk : ∀ W : World, (Instr.makeSlice 23 (.int .i64 2) (.int .i64 2)).run Try.prog W = .ok (.slice (some ⟨W.heap.size, 0, none⟩) 2 2) (W.alloc (.cells #[.int .u8 0, .int .u8 0] 5)) := fun W => by
        have := make8 2 (by omega) W
        rw [made8] at this
        exact this
      have hq : n / 65536 = 0 := Int.ediv_eq_zero_of_lt h0.1 hL
      have HN := Aside0.mk h0
      have EL := Aside0.mk (show n / 256 % 256 = n / 256 by omega)
      obtain ⟨hn0, hn1⟩ := h0
      clear hf hn
      go_enter Try.func31, Try.ntmps31
      go_wp2_with fail
      refine (num_is.calls n true w (by rw [is_plain, decide_eq_true HN.out])).mono ?_
      rintro e w1 ⟨rfl, hd⟩
      have HB1 := Aside0.mk hd.below
      clear hd
      go_wp2_with fail
      obtain ⟨w2, hw2⟩ : ∃ w2, w2 = w1.alloc (.cells #[.int .u8 0, .int .u8 0] 5) := ⟨_, rfl⟩
      have hb2 : Below w.heap.size w w2 := by rw [hw2]; exact HB1.out.alloc HB1.out.size _
      have hc2 : w2.heap[w1.heap.size]? = some (.cells #[.int .u8 0, .int .u8 0] 5 (0, 0)) := by rw [hw2]; exact heap_alloc_new w1 _
      rw [← hw2]
      obtain ⟨g, hg⟩ : ∃ g, g = w1.heap.size := ⟨_, rfl⟩
      rw [← hg] at hc2 ⊢
      have HG := Aside0.mk (show w.heap.size ≤ g by rw [hg]; exact HB1.out.size)
      have HB2 := Aside0.mk hb2
      have HC2 := Aside0.mk hc2
      clear hw2 hb2 hc2 hg
      go_loopg [30, 7] 2 (fun gk v30 v7 wr => ∃ (i : Nat), Aside0 (i + gk = 2) ∧ v30 = .int .i64 i ∧ Aside0 (wr.heap[g]? = some (.cells (((bytesN n).take i ++ List.replicate (2 - i) 0).map (Value.int .u8)).toArray 5 (0, 0))) ∧ Aside0 (Below w.heap.size w wr))
      case atStart => exact ⟨0, ⟨by omega⟩, rfl, HC2, HB2⟩
      case round =>
        clear HC2 HB2
        obtain ⟨i, HI, rfl, HX, HB⟩ := hrel
        rcases (show i = 0 ∨ i = 1 ∨ i = 2 by have := HI.out; omega) with rfl | rfl | rfl
        · have c0 : wr.cell? ⟨g, 0, none⟩ = some (.int .u8 0) := by rw [cell_blk HX.out]; rfl
          have f0 : wr.frozen? ⟨g, 0, none⟩ = false := frozen_blk HX.out
          go_wp2_with fail
          go_roundg (2 - 1)
          case measure => have := HI.out; omega
          case rel => exact ⟨1, ⟨by have := HI.out; omega⟩, by go_num, ⟨by rw [blk_set HX.out]; first | rfl | simp [bytesN, EL.out]⟩, ⟨HB.out.setCell (p := ⟨g, 0, none⟩) HG.out _⟩⟩
        · have c0 : wr.cell? ⟨g, 1, none⟩ = some (.int .u8 0) := by rw [cell_blk HX.out]; rfl
          have f0 : wr.frozen? ⟨g, 1, none⟩ = false := frozen_blk HX.out
          go_wp2_with fail
          go_roundg (2 - 2)
          case measure => have := HI.out; omega
          case rel => exact ⟨2, ⟨by have := HI.out; omega⟩, by go_num, ⟨by rw [blk_set HX.out]; first | rfl | simp [bytesN, EL.out]⟩, ⟨HB.out.setCell (p := ⟨g, 1, none⟩) HG.out _⟩⟩
        · go_wp2_with fail
          go_ret2
          refine ⟨_, rfl, ?_, HB.out⟩
          rw [leB2_eq]
          exact row_of (xs := [n % 256, n / 256 % 256]) (sp := []) (by rw [HX.out]; rfl) HG.out trivial rfl (by omega)
    · have hf : fixP n 2 = ([], 1) := by unfold fixP; rw [if_pos (by rw [show (256 : Int) ^ ((2 : Int)).toNat = 65536 from by decide]; omega)]
      rw [hf]
      have hq : 0 < n / 65536 := by omega
      have HN := Aside0.mk h0
      obtain ⟨hn0, hn1⟩ := h0
      clear hf hn
      go_enter Try.func31, Try.ntmps31
      go_wp2_with fail
      refine (num_is.calls n true w (by rw [is_plain, decide_eq_true HN.out])).mono ?_
      rintro e w1 ⟨rfl, hd⟩
      have HB1 := Aside0.mk hd.below
      clear hd
      go_wp2_with fail
      go_ret2
      exact ⟨_, rfl, Kd.R_nil _ _ _ _ _, HB1.out⟩
  · have hf : fixP n 2 = ([], 1) := by unfold fixP; rw [if_pos (by omega)]
    rw [hf]
    have HN := Aside0.mk h0
    clear hf h0
    go_enter Try.func31, Try.ntmps31
    go_wp2_with fail
    refine (num_is.calls n false w (by rw [is_plain, decide_eq_false HN.out])).mono ?_
    rintro e w1 ⟨rfl, hd⟩
    have HB1 := Aside0.mk hd.below
    clear hd
    go_wp2_with fail
    go_ret2
    exact ⟨_, rfl, Kd.R_nil _ _ _ _ _, HB1.out⟩
set_option maxHeartbeats 8000000 in
set_option maxRecDepth 100000 in
theorem fix4_any (n : Int) (w : World) (hn : -9223372036854775808 ≤ n ∧ n ≤ 9223372036854775807) :
    Calls Try.prog 31 #[.int .i64 n, .int .i64 4] w fun e w' => ∃ v, e = .returned (.tuple #[v, .int .i64 (fixP n 4).2]) ∧ Kd.R (Kd.int .u8) 5 w' w.heap.size (fun _ => True) v (fixP n 4).1 ∧ Below w.heap.size w w' := by
  by_cases h0 : 0 ≤ n ∧ n ≤ 2147483647
  · by_cases hL : n < 4294967296
    · have hf : fixP n 4 = (leB n 4, 0) := by unfold fixP; rw [if_neg (by rw [show (256 : Int) ^ ((4 : Int)).toNat = 4294967296 from by decide]; omega)]; rfl
      rw [hf]
      have hmk : ∀ W : World, (Instr.makeSlice 23 (.int .i64 4) (.int .i64 4)).run Try.prog W = .ok (.slice (some ⟨W.heap.size, 0, none⟩) 4 4) (W.alloc (.cells #[.int .u8 0, .int .u8 0, .int .u8 0, .int .u8 0] 5)) := fun W => by
        have := make8 4 (by omega) W
        rw [made8] at this
        exact this
      have hq : n / 4294967296 = 0 := Int.ediv_eq_zero_of_lt h0.1 hL
      have HN := Aside0.mk h0
      have EL := Aside0.mk (show n / 16777216 % 256 = n / 16777216 by omega)
      obtain ⟨hn0, hn1⟩ := h0
      clear hf hn
      go_enter Try.func31, Try.ntmps31
      go_wp2_with fail
      refine (num_is.calls n true w (by rw [is_plain, decide_eq_true HN.out])).mono ?_
      rintro e w1 ⟨rfl, hd⟩
      have HB1 := Aside0.mk hd.below
      clear hd
      go_wp2_with fail
      obtain ⟨w2, hw2⟩ : ∃ w2, w2 = w1.alloc (.cells #[.int .u8 0, .int .u8 0, .int .u8 0, .int .u8 0] 5) := ⟨_, rfl⟩
      have hb2 : Below w.heap.size w w2 := by rw [hw2]; exact HB1.out.alloc HB1.out.size _
      have hc2 : w2.heap[w1.heap.size]? = some (.cells #[.int .u8 0, .int .u8 0, .int .u8 0, .int .u8 0] 5 (0, 0)) := by rw [hw2]; exact heap_alloc_new w1 _
      rw [← hw2]
      obtain ⟨g, hg⟩ : ∃ g, g = w1.heap.size := ⟨_, rfl⟩
      rw [← hg] at hc2 ⊢
      have HG := Aside0.mk (show w.heap.size ≤ g by rw [hg]; exact HB1.out.size)
      have HB2 := Aside0.mk hb2
      have HC2 := Aside0.mk hc2
      clear hw2 hb2 hc2 hg
      go_loopg [30, 7] 4 (fun gk v30 v7 wr => ∃ (i : Nat), Aside0 (i + gk = 4) ∧ v30 = .int .i64 i ∧ Aside0 (wr.heap[g]? = some (.cells (((bytesN n).take i ++ List.replicate (4 - i) 0).map (Value.int .u8)).toArray 5 (0, 0))) ∧ Aside0 (Below w.heap.size w wr))
      case atStart => exact ⟨0, ⟨by omega⟩, rfl, HC2, HB2⟩
      case round =>
        clear HC2 HB2
        obtain ⟨i, HI, rfl, HX, HB⟩ := hrel
        rcases (show i = 0 ∨ i = 1 ∨ i = 2 ∨ i = 3 ∨ i = 4 by have := HI.out; omega) with rfl | rfl | rfl | rfl | rfl
        · have c0 : wr.cell? ⟨g, 0, none⟩ = some (.int .u8 0) := by rw [cell_blk HX.out]; rfl
          have f0 : wr.frozen? ⟨g, 0, none⟩ = false := frozen_blk HX.out
          go_wp2_with fail
          go_roundg (4 - 1)
          case measure => have := HI.out; omega
          case rel => exact ⟨1, ⟨by have := HI.out; omega⟩, by go_num, ⟨by rw [blk_set HX.out]; first | rfl | simp [bytesN, EL.out]⟩, ⟨HB.out.setCell (p := ⟨g, 0, none⟩) HG.out _⟩⟩
        · have c0 : wr.cell? ⟨g, 1, none⟩ = some (.int .u8 0) := by rw [cell_blk HX.out]; rfl
          have f0 : wr.frozen? ⟨g, 1, none⟩ = false := frozen_blk HX.out
          go_wp2_with fail
          go_roundg (4 - 2)
          case measure => have := HI.out; omega
          case rel => exact ⟨2, ⟨by have := HI.out; omega⟩, by go_num, ⟨by rw [blk_set HX.out]; first | rfl | simp [bytesN, EL.out]⟩, ⟨HB.out.setCell (p := ⟨g, 1, none⟩) HG.out _⟩⟩
        · have c0 : wr.cell? ⟨g, 2, none⟩ = some (.int .u8 0) := by rw [cell_blk HX.out]; rfl
          have f0 : wr.frozen? ⟨g, 2, none⟩ = false := frozen_blk HX.out
          go_wp2_with fail
          go_roundg (4 - 3)
          case measure => have := HI.out; omega
          case rel => exact ⟨3, ⟨by have := HI.out; omega⟩, by go_num, ⟨by rw [blk_set HX.out]; first | rfl | simp [bytesN, EL.out]⟩, ⟨HB.out.setCell (p := ⟨g, 2, none⟩) HG.out _⟩⟩
        · have c0 : wr.cell? ⟨g, 3, none⟩ = some (.int .u8 0) := by rw [cell_blk HX.out]; rfl
          have f0 : wr.frozen? ⟨g, 3, none⟩ = false := frozen_blk HX.out
          go_wp2_with fail
          go_roundg (4 - 4)
          case measure => have := HI.out; omega
          case rel => exact ⟨4, ⟨by have := HI.out; omega⟩, by go_num, ⟨by rw [blk_set HX.out]; first | rfl | simp [bytesN, EL.out]⟩, ⟨HB.out.setCell (p := ⟨g, 3, none⟩) HG.out _⟩⟩
        · go_wp2_with fail
          go_ret2
          refine ⟨_, rfl, ?_, HB.out⟩
          rw [leB4_eq]
          exact row_of (xs := [n % 256, n / 256 % 256, n / 65536 % 256, n / 16777216 % 256]) (sp := []) (by rw [HX.out]; rfl) HG.out trivial rfl (by omega)
    · have hf : fixP n 4 = ([], 1) := by unfold fixP; rw [if_pos (by rw [show (256 : Int) ^ ((4 : Int)).toNat = 4294967296 from by decide]; omega)]
      rw [hf]
      have hq : 0 < n / 4294967296 := by omega
      have HN := Aside0.mk h0
      obtain ⟨hn0, hn1⟩ := h0
      clear hf hn
      go_enter Try.func31, Try.ntmps31
      go_wp2_with fail
      refine (num_is.calls n true w (by rw [is_plain, decide_eq_true HN.out])).mono ?_
      rintro e w1 ⟨rfl, hd⟩
      have HB1 := Aside0.mk hd.below
      clear hd
      go_wp2_with fail
      go_ret2
      exact ⟨_, rfl, Kd.R_nil _ _ _ _ _, HB1.out⟩
  · have hf : fixP n 4 = ([], 1) := by unfold fixP; rw [if_pos (by omega)]
    rw [hf]
    have HN := Aside0.mk h0
    clear hf h0
    go_enter Try.func31, Try.ntmps31
    go_wp2_with fail
    refine (num_is.calls n false w (by rw [is_plain, decide_eq_false HN.out])).mono ?_
    rintro e w1 ⟨rfl, hd⟩
    have HB1 := Aside0.mk hd.below
    clear hd
    go_wp2_with fail
    go_ret2
    exact ⟨_, rfl, Kd.R_nil _ _ _ _ _, HB1.out⟩
end Cell
end Go.Proofs.Ytclneeamemofoaa
end
