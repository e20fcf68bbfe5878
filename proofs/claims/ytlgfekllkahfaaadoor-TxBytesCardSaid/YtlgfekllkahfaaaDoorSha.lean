/- SHA-256, as mathematics. -/
import Derived.ProofKit
set_option linter.unusedVariables false
namespace Go.Proofs.YtlgfekllkahfaaaDoor.Sha
abbrev F := BitVec 32
def ror (x : F) (n : Nat) : F := (x >>> n) ||| (x <<< (32 - n))
def sg0 (x : F) : F := ror x 7 ^^^ ror x 18 ^^^ (x >>> 3)
def sg1 (x : F) : F := ror x 17 ^^^ ror x 19 ^^^ (x >>> 10)
def bg0 (x : F) : F := ror x 2 ^^^ ror x 13 ^^^ ror x 22
def bg1 (x : F) : F := ror x 6 ^^^ ror x 11 ^^^ ror x 25
def ch (e f g : F) : F := (e &&& f) ^^^ (~~~e &&& g)
def maj (a b c : F) : F := (a &&& b) ^^^ (a &&& c) ^^^ (b &&& c)
/-- the letters a to h -/
structure S where
  a : F
  b : F
  c : F
  d : F
  e : F
  f : F
  g : F
  h : F
def S.l (x : S) : List F := [x.a, x.b, x.c, x.d, x.e, x.f, x.g, x.h]
def at_ (l : List F) (i : Nat) : F := l.getD i 0#32
def ks : List F := [1116352408#32, 1899447441#32, 3049323471#32, 3921009573#32, 961987163#32, 1508970993#32, 2453635748#32, 2870763221#32, 3624381080#32, 310598401#32, 607225278#32, 1426881987#32, 1925078388#32, 2162078206#32, 2614888103#32, 3248222580#32, 3835390401#32, 4022224774#32, 264347078#32, 604807628#32, 770255983#32, 1249150122#32, 1555081692#32, 1996064986#32, 2554220882#32, 2821834349#32, 2952996808#32, 3210313671#32, 3336571891#32, 3584528711#32, 113926993#32, 338241895#32, 666307205#32, 773529912#32, 1294757372#32, 1396182291#32, 1695183700#32, 1986661051#32, 2177026350#32, 2456956037#32, 2730485921#32, 2820302411#32, 3259730800#32, 3345764771#32, 3516065817#32, 3600352804#32, 4094571909#32, 275423344#32, 430227734#32, 506948616#32, 659060556#32, 883997877#32, 958139571#32, 1322822218#32, 1537002063#32, 1747873779#32, 1955562222#32, 2024104815#32, 2227730452#32, 2361852424#32, 2428436474#32, 2756734187#32, 3204031479#32, 3329325298#32]
def beg : S := ⟨1779033703#32, 3144134277#32, 1013904242#32, 2773480762#32, 1359893119#32, 2600822924#32, 528734635#32, 1541459225#32⟩
def nextw (w : List F) : F := sg1 (at_ w (w.length - 2)) + at_ w (w.length - 7) + sg0 (at_ w (w.length - 15)) + at_ w (w.length - 16)
/-- n words more -/
def ext : Nat → List F → List F
  | 0, w => w
  | n + 1, w => ext n (w ++ [nextw w])
def word (b : List Int) : F := b.foldl (fun o c => (o <<< 8) ||| BitVec.ofInt 32 c) 0#32
def first (b : List Int) : List F := (List.range 16).map fun i => word ((b.drop (4 * i)).take 4)
def sched (b : List Int) : List F := ext 48 (first b)
def S.round (x : S) (k w : F) : S :=
  ⟨x.h + bg1 x.e + ch x.e x.f x.g + k + w + (bg0 x.a + maj x.a x.b x.c), x.a, x.b, x.c, x.d + (x.h + bg1 x.e + ch x.e x.f x.g + k + w), x.e, x.f, x.g⟩
def rounds (w : List F) (x : S) : Nat → S
  | 0 => x
  | i + 1 => (rounds w x i).round (at_ ks i) (at_ w i)
def S.add (x y : S) : S := ⟨x.a + y.a, x.b + y.b, x.c + y.c, x.d + y.d, x.e + y.e, x.f + y.f, x.g + y.g, x.h + y.h⟩
def comp (x : S) (b : List Int) : S := x.add (rounds (sched b) x 64)
def len8 (n : Nat) : List Int := (List.range 8).map fun i => ((n / 2 ^ (8 * (7 - i)) % 256 : Nat) : Int)
def noughts (n : Nat) : Nat := (119 - n % 64) % 64
def pad (t : List Int) : List Int := t ++ [128] ++ List.replicate (noughts t.length) 0 ++ len8 (8 * t.length)
def blocks (p : List Int) : Nat → S
  | 0 => beg
  | k + 1 => comp (blocks p k) ((p.drop (64 * k)).take 64)
def byte_ (x : S) (i : Nat) : Int := (((at_ x.l (i / 4)).toNat / 2 ^ (8 * (3 - i % 4)) % 256 : Nat) : Int)
def outb (x : S) : List Int := (List.range 32).map (byte_ x)
/-- the digest of a text -/
def sum (t : List Int) : List Int := outb (blocks (pad t) ((pad t).length / 64))
theorem sum_length (t : List Int) : (sum t).length = 32 := by simp [sum, outb]
theorem sum_bytes (t : List Int) : ∀ x ∈ sum t, 0 ≤ x ∧ x < 256 := by
  intro x hx
  simp only [sum, outb, List.mem_map] at hx
  obtain ⟨i, _, rfl⟩ := hx
  unfold byte_
  omega
theorem pad_length (t : List Int) : (pad t).length = 64 * ((t.length + 72) / 64) := by
  simp only [pad, List.length_append, List.length_replicate, len8, List.length_map, List.length_range, noughts, List.length_cons, List.length_nil]
  omega
theorem ext_length : ∀ (n : Nat) (w : List F), (ext n w).length = w.length + n
  | 0, w => rfl
  | n + 1, w => by simp only [ext]; rw [ext_length n]; simp; omega
theorem at_append_lt {a b : List F} {i : Nat} (h : i < a.length) : at_ (a ++ b) i = at_ a i := by
  unfold at_; rw [List.getD_eq_getElem?_getD, List.getD_eq_getElem?_getD, List.getElem?_append_left h]
theorem at_ext : ∀ (n : Nat) (w : List F) (i : Nat), i < w.length → at_ (ext n w) i = at_ w i
  | 0, w, i, h => rfl
  | n + 1, w, i, h => by simp only [ext]; rw [at_ext n _ i (by simp; omega), at_append_lt h]
theorem ext_ext : ∀ (n m : Nat) (w : List F), ext (n + m) w = ext m (ext n w)
  | 0, m, w => by rw [Nat.zero_add]; rfl
  | n + 1, m, w => by rw [show n + 1 + m = (n + m) + 1 by omega]; simp only [ext]; exact ext_ext n m _
theorem ext_succ (n : Nat) (w : List F) : ext (n + 1) w = ext n w ++ [nextw (ext n w)] := ext_ext n 1 w
theorem first_length (b : List Int) : (first b).length = 16 := by simp [first]
theorem sched_length (b : List Int) : (sched b).length = 64 := by unfold sched; rw [ext_length, first_length]
theorem at_first (b : List Int) (i : Nat) (h : i < 16) : at_ (first b) i = word ((b.drop (4 * i)).take 4) := by
  unfold at_ first
  rw [List.getD_eq_getElem?_getD, List.getElem?_map, List.getElem?_range h]; rfl
theorem at_sched_first (b : List Int) (i : Nat) (h : i < 16) : at_ (sched b) i = word ((b.drop (4 * i)).take 4) := by
  unfold sched; rw [at_ext _ _ _ (by rw [first_length]; exact h), at_first b i h]
/-- a word of the schedule behind the first ones -/
theorem at_sched (b : List Int) (i : Nat) (h0 : 16 ≤ i) (h : i < 64) :
    at_ (sched b) i = sg1 (at_ (sched b) (i - 2)) + at_ (sched b) (i - 7) + sg0 (at_ (sched b) (i - 15)) + at_ (sched b) (i - 16) := by
  have hs : sched b = ext (47 - (i - 16)) (ext (i - 16 + 1) (first b)) := by unfold sched; rw [← ext_ext]; congr 1; omega
  have hl : (ext (i - 16) (first b)).length = i := by rw [ext_length, first_length]; omega
  have e0 : ∀ j, j < i → at_ (sched b) j = at_ (ext (i - 16) (first b)) j := fun j hj => by
    rw [hs, at_ext _ _ _ (by rw [ext_length, first_length]; omega), ext_succ, at_append_lt (by omega)]
  rw [e0 (i - 2) (by omega), e0 (i - 7) (by omega), e0 (i - 15) (by omega), e0 (i - 16) (by omega)]
  rw [hs, at_ext _ _ _ (by rw [ext_length, first_length]; omega), ext_succ]
  unfold at_
  rw [List.getD_eq_getElem?_getD, List.getElem?_append_right (by omega), hl, Nat.sub_self]
  show nextw _ = _
  unfold nextw at_
  rw [hl]
end Go.Proofs.YtlgfekllkahfaaaDoor.Sha
