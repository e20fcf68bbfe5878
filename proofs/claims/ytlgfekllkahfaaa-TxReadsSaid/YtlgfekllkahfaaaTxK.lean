/- Words for transactions in a program that makes no digests. -/
import Derived.Test.YtlgfekllkahfaaaArrK
import Derived.Test.YtlgfekllkahfaaaBits
import Derived.Test.YtlgfekllkahfaaaWArr
import Derived.Great.BuildSlice
import Derived.ArgAppend
set_option linter.unusedVariables false
set_option linter.unusedSimpArgs false
namespace Go.Proofs.Ytlgfekllkahfaaa.Sha
def none_ : Nat := 0
end Go.Proofs.Ytlgfekllkahfaaa.Sha
namespace Go.Proofs.Ytlgfekllkahfaaa.ShaW
open Go.RowKit Go.Proofs.YtlgfekllkahfaaaW.PrintWords Go.Proofs.YtlgfekllkahfaaaW.PrintMore Go.Proofs.Ytlgfekllkahfaaa Go.Proofs.Ytlgfekllkahfaaa.Bits ArrK
def Bytes (l : List Int) : Prop := ∀ x ∈ l, 0 ≤ x ∧ x < 256
theorem info_u8 : (Try.prog.info? 5).map (fun i => (i.zero, i.size, i.bytes)) = some (some (.int .u8 0), 1, 1) := by kernel_rfl
abbrev hv (h : List Int) : Value := .agg (nums .u8 h).toArray
abbrev zero32 : List Int := List.replicate 32 0
theorem wpList_new_put {P : Program} {ops : Array Oper} {rest : List Oper} {o1 o2 : Oper} {a : Act} {W : World} {Q : Exit → Act → World → Prop} (hg1 : o1.guard = none) {N : Tmp} (hd1 : o1.dst = some N) (hg2 : o2.guard = none) (ty : TypeId) (y : Operand) (ho2 : o2.op = .store ty (.tmp N) y)
    (vs zs : List Value) (hl : zs.length = vs.length)
    (hrun : (execOp a.eval o1).run P W = .ok (.value (.pointer (some ⟨W.heap.size, 0, none⟩))) (W.alloc (.cells zs.toArray ty (0, 0))))
    (hx : (a.put (some N) (.pointer (some ⟨W.heap.size, 0, none⟩))).eval (.tmp N) = .pointer (some ⟨W.heap.size, 0, none⟩)) (hy : (a.put (some N) (.pointer (some ⟨W.heap.size, 0, none⟩))).eval y = .agg vs.toArray)
    (hi : (P.info? ty).map (·.size) = some vs.length) (h1 : ∀ u ∈ vs, u.oneCell' = true)
    (h : ∀ W1, Blk W1 W.heap.size ty vs → Below W.heap.size W W1 → W1.heap.size = W.heap.size + 1 → wpList P ops Q rest ((a.put (some N) (.pointer (some ⟨W.heap.size, 0, none⟩))).put o2.dst undef) W1) :
    wpList P ops Q (o1 :: o2 :: rest) a W := by
  refine Kd.event_run hg1 hrun ?_
  rw [hd1]
  have hb := Blk.new W ty zs
  refine wpList_put_blk hg2 ty (.tmp N) y ho2 W.heap.size ty vs zs hl hx hy hb hi h1 ?_
  intro W1 hW hg hs
  refine h W1 hW ?_ (by rw [hs]; simp)
  exact (below_alloc (Below.refl W.heap.size W) (.cells zs.toArray ty)).grown hg (by simp) (fun k e => by cases e; exact Nat.le_refl _)
theorem C_block {W : World} {B T : Nat} {h : List Int} (hh : Blk W B T (nums .u8 h)) (hl : h.length ≤ 9223372036854775807) : Kd.C (Kd.int .u8) W (some ⟨B, 0, none⟩) h.length h := by
  refine Kd.C_of_reads (d := (0 : Int)) (h1 := fun _ => rfl) ⟨rfl, hl, fun _ => ⟨_, rfl, fun j hj => hh.add j _ ?_⟩⟩
  simp [nums, hj]
theorem u8_one (h : List Int) : ∀ u ∈ nums .u8 h, u.oneCell' = true := by intro u hu; simp only [nums, List.mem_map] at hu; obtain ⟨_, _, rfl⟩ := hu; rfl
theorem info_hash (h : List Int) (hl : h.length = 32) : (Try.prog.info? 31).map (·.size) = some (nums .u8 h).length := by rw [show (nums .u8 h).length = 32 by simp [nums, hl]]; kernel_rfl
theorem bytes_ok (s : ByteArray) : Bytes (bytesOf s) := by
  intro x hx
  simp only [bytesOf, List.mem_map] at hx
  obtain ⟨b, _, rfl⟩ := hx
  have := b.toNat_lt
  omega
structure Sp where
  tx : List Int
  n : Int
  key : ByteArray
  sel : Int
def spc (s : Sp) : List Value := nums .u8 s.tx ++ [.int .i64 s.n, .string s.key, .int .u64 s.sel]
abbrev spv (s : Sp) : Value := .agg (spc s).toArray
structure Co where
  value : Int
  lock : Int
def coc (c : Co) : List Value := [.int .i64 c.value, .int .u64 c.lock]
abbrev cov (c : Co) : Value := .agg (coc c).toArray
theorem spc_length (s : Sp) (h : s.tx.length = 32) : (spc s).length = 35 := by simp [spc, nums, h]
theorem spc_n (s : Sp) (h : s.tx.length = 32) : (spc s)[32]? = some (.int .i64 s.n) := by
  unfold spc; rw [List.getElem?_append_right (by simp [nums, h])]; simp [nums, h]
theorem spc_key (s : Sp) (h : s.tx.length = 32) : (spc s)[33]? = some (.string s.key) := by
  unfold spc; rw [List.getElem?_append_right (by simp [nums, h])]; simp [nums, h]
theorem spc_seal (s : Sp) (h : s.tx.length = 32) : (spc s)[34]? = some (.int .u64 s.sel) := by
  unfold spc; rw [List.getElem?_append_right (by simp [nums, h])]; simp [nums, h]
theorem spc_one (s : Sp) : ∀ u ∈ spc s, u.oneCell' = true := by
  intro u hu
  simp only [spc, List.mem_append, List.mem_cons, List.not_mem_nil, or_false] at hu
  rcases hu with hu | rfl | rfl | rfl
  · exact u8_one _ u hu
  · rfl
  · rfl
  · rfl
theorem coc_one (c : Co) : ∀ u ∈ coc c, u.oneCell' = true := by
  intro u hu
  simp only [coc, List.mem_cons, List.not_mem_nil, or_false] at hu
  rcases hu with rfl | rfl <;> rfl
theorem info_spend (s : Sp) (h : s.tx.length = 32) : (Try.prog.info? 36).map (·.size) = some (spc s).length := by rw [spc_length s h]; kernel_rfl
theorem info_coin (c : Co) : (Try.prog.info? 38).map (·.size) = some (coc c).length := by kernel_rfl
end Go.Proofs.Ytlgfekllkahfaaa.ShaW
