/- Tables of multiples (gf.By, (*gf.Table).Mul): what the calls come to, by whatever total function gf.Mul computes. -/
import Derived.WalkKit
import Derived.StillTailTactics
import Derived.Deep.QuietTactic
import Derived.BigQuiet
import Derived.RangeFuncBox
import Derived.Test.YtljkbkhaamlbmaaProg
import Derived.Test.YtljkbkhaamlbmaaWMore
set_option linter.unusedVariables false
set_option linter.unusedSimpArgs false
namespace Go.Proofs.Ytljkbkhaamlbmaa.ETab
open Go.RowKit Go.Proofs.YtljkbkhaamlbmaaW.PrintWords
def ent (m : Int → Int → Int) (a : Int) (j : Nat) : Int := m a (((j % 256 : Nat) : Int) * 2 ^ (8 * (j / 256)))
def tabN (m : Int → Int → Int) (a : Int) (n : Nat) : Array Value := Array.ofFn (n := 1024) fun j => .int .u32 (if j.val < n then ent m a j.val else 0)
theorem zeros (m : Int → Int → Int) (a : Int) : tabN m a 0 = Array.replicate 1024 (.int .u32 0) := by
  apply Array.ext
  · simp [tabN]
  · intro i h1 h2; simp [tabN]
def tab0 : Array Value := Array.replicate 1024 (.int .u32 0)
theorem zv (w : World) : (zeroValue 79).run Try.prog w = .ok (.agg tab0) w := by kernel_rfl
theorem tabN_set (m : Int → Int → Int) (a : Int) (n : Nat) (h : n < 1024) : (tabN m a n).setIfInBounds n (.int .u32 (ent m a n)) = tabN m a (n + 1) := by
  apply Array.ext
  · simp [tabN]
  · intro i h1 h2
    simp only [tabN, Array.size_ofFn] at h2
    rw [Array.getElem_setIfInBounds (by simpa [tabN] using h2)]
    simp only [tabN, Array.getElem_ofFn]
    by_cases e : n = i
    · subst e; simp
    · rw [if_neg e]
      by_cases e2 : i < n
      · rw [if_pos e2, if_pos (by omega)]
      · rw [if_neg e2, if_neg (by omega)]
set_option maxRecDepth 100000 in
set_option maxHeartbeats 2000000 in
theorem by_calls (m : Int → Int → Int) (hmul : ∀ (a b : Int) (w : World), Calls Try.prog 29 #[.int .u32 a, .int .u32 b] w fun e w' => e = .returned (.int .u32 (m a b)) ∧ w' = w) (a : Int) (w : World) :
    Calls Try.prog 44 #[.int .u32 a] w fun e w' => e = .returned (.pointer (some ⟨w.heap.size, 0, none⟩)) ∧ w'.heap[w.heap.size]? = some (.cells (tabN m a 1024) 79 (0, 0)) ∧ Below w.heap.size w w' := by
  have hz := zv
  have hs : ∀ k b : Nat, k < 4 → b < 256 → IntKind.u32.wrap ((b : Int) * 2 ^ (8 * (k : Int)).toNat) = (b : Int) * 2 ^ (8 * k) := by
    intro k b hk hb
    have e : (8 * (k : Int)).toNat = 8 * k := by omega
    rw [e, IntKind.wrap_u32]
    have hp : (b : Int) * 2 ^ (8 * k) = ((b * 2 ^ (8 * k) : Nat) : Int) := by simp
    rw [hp]
    have : b * 2 ^ (8 * k) < 4294967296 := by
      have h1 : k = 0 ∨ k = 1 ∨ k = 2 ∨ k = 3 := by omega
      rcases h1 with e | e | e | e <;> subst e <;> simp <;> omega
    omega
  go_enter Try.func44, Try.ntmps44
  go_wp2
  have hb0 : (w.alloc (.cells tab0 79)).heap[w.heap.size]? = some (.cells (tabN m a 0) 79 (0, 0)) := by rw [zeros]; exact World.alloc_heap_new w _
  clear hz
  go_loopw [8] (fun i wr => ∃ k : Nat, k ≤ 4 ∧ i = .int .i64 k ∧ wr.heap[w.heap.size]? = some (.cells (tabN m a (k * 256)) 79 (0, 0)) ∧ Below w.heap.size w wr) (fun i _ => 4 - (intOf i).toNat)
  case atStart => exact ⟨0, Nat.zero_le _, by simp, hb0, (Below.refl _ w).alloc (Nat.le_refl _) _⟩
  case round =>
    obtain ⟨k, hk, rfl, hb, hB⟩ := hrel
    obtain ⟨wo, hwo⟩ : ∃ wo : World, wo = wr := ⟨_, rfl⟩
    by_cases hlt : k < 4
    · have hk4 : decide ((k : Int) < 4) = true := decide_eq_true (by omega)
      go_wp2
      go_loopw [11] (fun j wq => ∃ b : Nat, b ≤ 256 ∧ j = .int .i64 b ∧ wq.heap[w.heap.size]? = some (.cells (tabN m a (k * 256 + b)) 79 (0, 0)) ∧ Below w.heap.size w wq) (fun j _ => 256 - (intOf j).toNat)
      case atStart => exact ⟨0, Nat.zero_le _, by simp, hb, hB⟩
      case round =>
        obtain ⟨b, hbb, rfl, hc, hD⟩ := hrel
        by_cases hlt2 : b < 256
        · have hb4 : decide ((b : Int) < 256) = true := decide_eq_true (by omega)
          go_wp2
          have w8 : IntKind.i64.wrap (8 * (k : Int)) = 8 * (k : Int) := by rw [IntKind.wrap_i64]; omega
          have wb : IntKind.u32.wrap (b : Int) = (b : Int) := by rw [IntKind.wrap_u32]; omega
          have p0 : (0 : Int) ≤ 8 * (k : Int) := by omega
          have p1 : 8 * (k : Int) ≤ 32 := by omega
          have hsh := hs k b hlt hlt2
          clear hs hk4 hb4
          have hk5 : (k : Int) < 4 := by omega
          have hb5 : (b : Int) < 256 := by omega
          go_still_tail 14, (by kernel_rfl)
          still_call (hmul _ _ _)
          repeat still_step
          refine wpStill_nil ?_
          obtain ⟨x0, hx0⟩ : ∃ x0, wr.cell? ⟨w.heap.size, k * 256 + b, none⟩ = some (.int .u32 x0) := by
            rw [blk_cell hc]
            have hlt3 : k * 256 + b < (tabN m a (k * 256 + b)).size := by simp [tabN]; omega
            rw [Array.getElem?_eq_getElem hlt3]
            exact ⟨0, by simp [tabN]⟩
          have hset := blk_set (w := wr.drew) hc (k * 256 + b) (.int .u32 (ent m a (k * 256 + b)))
          rw [tabN_set m a _ (by omega)] at hset
          have hent : ent m a (k * 256 + b) = m a ((b : Int) * 2 ^ (8 * k)) := by
            unfold ent
            have e1 : (k * 256 + b) % 256 = b := by omega
            have e2 : (k * 256 + b) / 256 = k := by omega
            rw [e1, e2]
          rw [hent] at hset
          have hBd : Below w.heap.size w wr.drew := hD.trans ⟨rfl, rfl, rfl, Nat.le_refl _, fun _ _ => rfl⟩
          change wpList _ _ _ _ _ wr.drew
          have hcell2 : wr.drew.cell? ⟨w.heap.size, k * 256 + b, none⟩ = some (.int .u32 x0) := hx0
          have hfz2 : wr.drew.frozen? ⟨w.heap.size, k * 256 + b, none⟩ = false := blk_frozen (w := wr.drew) hc _
          clear hc hD hx0 w8 wb hsh hent
          generalize wr.drew = w2 at *
          go_wp2
          go_roundw
          case rel => exact ⟨b + 1, by omega, by go_num, hset, hBd.setCell (p := ⟨w.heap.size, k * 256 + b, none⟩) (Nat.le_refl _) _⟩
          case measure => simp [intOf]; omega
        · obtain rfl : b = 256 := by omega
          clear hs
          go_wp2
          go_roundw
          case rel => exact ⟨k + 1, by omega, by go_num, by rw [Nat.succ_mul]; exact hc, hD⟩
          case measure => simp [intOf]; omega
    · obtain rfl : k = 4 := by omega
      clear hs
      go_wp2
      go_ret
      exact ⟨rfl, hb, hB⟩
def idx (b : Int) (i : Nat) : Int := Go.bits .and .u32 (b / 2 ^ (8 * i)) 255
theorem idx_bd (b : Int) (i : Nat) : 0 ≤ idx b i ∧ idx b i < 256 := by
  unfold idx
  have h : Go.bits .and .u32 (b / 2 ^ (8 * i)) 255 = IntKind.u32.wrap ((BitVec.ofInt 32 (b / 2 ^ (8 * i)) &&& BitVec.ofInt 32 255).toNat : Int) := rfl
  rw [h, IntKind.wrap_u32, BitVec.toNat_and]
  have e : (BitVec.ofInt 32 255).toNat = 255 := by decide
  rw [e]
  have := Nat.and_le_right (n := (BitVec.ofInt 32 (b / 2 ^ (8 * i))).toNat) (m := 255)
  omega
def tm (m : Int → Int → Int) (a b : Int) : Nat → Int
  | 0 => 0
  | i + 1 => Go.bits .xor .u32 (tm m a b i) (ent m a (i * 256 + (idx b i).toNat))
theorem tab_at (m : Int → Int → Int) (a : Int) (j : Nat) (h : j < 1024) : (tabN m a 1024)[j]? = some (.int .u32 (ent m a j)) := by
  have hs : j < (tabN m a 1024).size := by simp [tabN]; exact h
  rw [Array.getElem?_eq_getElem hs]; simp [tabN, h]
set_option maxRecDepth 100000 in
set_option maxHeartbeats 2000000 in
theorem tmul_calls (m : Int → Int → Int) (a b : Int) (g : Nat) (w : World) (hg : w.heap[g]? = some (.cells (tabN m a 1024) 79 (0, 0))) :
    Calls Try.prog 45 #[.pointer (some ⟨g, 0, none⟩), .int .u32 b] w fun e w' => e = .returned (.int .u32 (tm m a b 4)) ∧ Drawn0 w w' := by
  go_enter Try.func45, Try.ntmps45
  go_wp2
  go_loopw [5, 9] (fun o i wr => ∃ (k : Nat) (x : Int), k ≤ 4 ∧ i = .int .i64 k ∧ o = .int .u32 x ∧ Aside0 (x = tm m a b k) ∧ Drawn0 w wr) (fun _ i _ => 4 - (intOf i).toNat)
  case atStart => exact ⟨0, 0, Nat.zero_le _, by simp, rfl, ⟨rfl⟩, by repeat (first | exact Drawn0.refl _ | apply Drawn0.step)⟩
  case round =>
    obtain ⟨k, x, hk, rfl, rfl, hx, ⟨n, rfl⟩⟩ := hrel
    by_cases hlt : k < 4
    · have hk4 : decide ((k : Int) < 4) = true := decide_eq_true (by omega)
      go_wp2
      clear hk4
      have hi := idx_bd b k
      obtain ⟨j, hj⟩ : ∃ j, j = idx b k := ⟨_, rfl⟩
      rw [← hj] at hi
      have hcell : w.cell? ⟨g, k * 256 + j.toNat, none⟩ = some (.int .u32 (ent m a (k * 256 + j.toNat))) := by
        rw [blk_cell hg]; exact tab_at m a _ (by omega)
      have hj2 : Go.bits .and .u32 (b / 2 ^ (8 * k)) 255 = j := hj.symm
      have hj3 : Go.bits .and .u32 (b / 2 ^ (8 * (k : Int)).toNat) 255 = j := by
        have e : (8 * (k : Int)).toNat = 8 * k := by omega
        rw [e]; exact hj2
      have hJ := Aside0.mk hj
      clear hj
      have j0 := hi.1
      have j1 := hi.2
      have w8 : IntKind.i64.wrap (8 * (k : Int)) = 8 * (k : Int) := by rw [IntKind.wrap_i64]; omega
      have p0 : (0 : Int) ≤ 8 * (k : Int) := by omega
      have p1 : 8 * (k : Int) ≤ 32 := by omega
      have hk5 : (k : Int) < 4 := by omega
      go_quiet (fail)
      go_wp2
      go_roundw
      case rel => exact ⟨k + 1, _, by omega, by go_num, rfl, ⟨by rw [hx.out, hJ.out]; rfl⟩, by repeat (first | exact Drawn0.refl _ | apply Drawn0.step)⟩
      case measure => simp [intOf]; omega
    · obtain rfl : k = 4 := by omega
      obtain rfl := hx.out
      go_wp2
      go_ret
      exact ⟨rfl, by repeat (first | exact Drawn0.refl _ | apply Drawn0.step)⟩
end Go.Proofs.Ytljkbkhaamlbmaa.ETab
