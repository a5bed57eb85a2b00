/- Plain words on bytes: what the layers 1, 2, 10, 11 and 12 of the program compute, without Go and memory. -/
import Derived.Lib.RuneBytes
import Derived.Shelf.Unicode.DecodeSlow
import Derived.Lib.MapLaws
import Derived.Lib.ItoaNum
set_option linter.unusedVariables false
set_option linter.unusedSimpArgs false
namespace Go.Proofs.YtogpmgjdmoglkaaGreatDoor.Pu

abbrev Bs := List UInt8

/-! ### bytes -/
def letter (n : Int) : Bool := decide (65 ≤ n) && decide (n ≤ 90) || decide (97 ≤ n) && decide (n ≤ 122)
def digit (n : Int) : Bool := decide (48 ≤ n) && decide (n ≤ 57)
def hex (n : Int) : Int :=
  if 48 ≤ n ∧ n ≤ 57 then n - 48 else if 97 ≤ n ∧ n ≤ 102 then n - 97 + 10 else if 65 ≤ n ∧ n ≤ 70 then n - 65 + 10 else -1
def lowC (c : UInt8) : UInt8 := if 65 ≤ c.toNat ∧ c.toNat ≤ 90 then c + 32 else c
def lower (s : Bs) : Bs := s.map lowC
def bI (c : UInt8) : Int := (c.toNat : Int)

/-! ### escape -/
def signs (set : Int) : Bs :=
  if set = 1 then [32, 34, 60, 62, 96]
  else if set = 2 then [32, 34, 35, 60, 62]
  else if set = 3 then [32, 34, 35, 60, 62, 39]
  else if set = 4 then [32, 34, 35, 60, 62, 63, 94, 96, 123, 125]
  else if set = 5 then [32, 34, 35, 60, 62, 63, 94, 96, 123, 125, 47, 58, 59, 61, 64, 91, 92, 93, 124]
  else if set = 6 then [32, 34, 35, 60, 62, 63, 94, 96, 123, 125, 47, 58, 59, 61, 64, 91, 92, 93, 124, 36, 37, 38, 43, 44]
  else []
def inSet (set : Int) (c : UInt8) : Bool :=
  if set < 0 ∨ 6 < set then false else decide (c.toNat < 32) || decide (126 < c.toNat) || (signs set).contains c
def hexU (n : Nat) : UInt8 := if n < 10 then UInt8.ofNat (48 + n) else UInt8.ofNat (55 + n)
def pct (c : UInt8) : Bs := [37, hexU (c.toNat / 16), hexU (c.toNat % 16)]
def escC (set : Int) (c : UInt8) : Bs := if inSet set c then pct c else [c]
def esc (set : Int) (s : Bs) : Bs := s.flatMap (escC set)
/-- The byte of two hexadecimal digits, if they are. -/
def twoHex (a b : UInt8) : Option UInt8 := if 0 ≤ hex (bI a) ∧ 0 ≤ hex (bI b) then some (UInt8.ofNat (16 * (hex (bI a)).toNat + (hex (bI b)).toNat)) else none
def unesc : Bs → Bs
  | [] => []
  | [c] => [c]
  | [c, a] => [c, a]
  | c :: a :: b :: r =>
    if c = 37 then
      match twoHex a b with
      | some x => x :: unesc r
      | none => c :: unesc (a :: b :: r)
    else c :: unesc (a :: b :: r)

/-! ### path -/
/-- How many points a segment is; 0: it is something else. -/
def dotsGo : Nat → Bs → Nat
  | n, [] => n
  | n, [c] => if c = 46 then n + 1 else 0
  | n, [c, d] => if c = 46 then (if d = 46 then n + 2 else 0) else 0
  | n, c :: a :: b :: r =>
    if c = 46 then dotsGo (n + 1) (a :: b :: r)
    else if lower [c, a, b] = [37, 50, 101] then dotsGo (n + 1) r else 0
def dots (s : Bs) : Nat := dotsGo 0 s
def drive (s : Bs) : Bool := match s with
  | [a, b] => letter (bI a) && (b == 58 || b == 124)
  | _ => false
def normal (s : Bs) : Bool := match s with
  | [a, b] => letter (bI a) && (b == 58)
  | _ => false
def shorten (file : Bool) (path : List Bs) : List Bs :=
  match path with
  | [] => []
  | [x] => if file && normal x then [x] else []
  | _ => path.dropLast
def stepSeg (file : Bool) (path : List Bs) (s : Bs) (last : Bool) : List Bs :=
  if dots s = 2 then (if last then shorten file path ++ [[]] else shorten file path)
  else if dots s = 1 then (if last then path ++ [[]] else path)
  else if file && path.isEmpty && drive s then path ++ [esc 4 (s.take 1 ++ [58])]
  else path ++ [esc 4 s]
/-- A text, cut at each byte that parts. -/
def splitB (p : UInt8 → Bool) : Bs → List Bs
  | [] => [[]]
  | c :: r => if p c then [] :: splitB p r else match splitB p r with
    | [] => [[c]]
    | x :: xs => (c :: x) :: xs
def walkSegs (file : Bool) : List Bs → List Bs → List Bs
  | out, [] => out
  | out, [x] => stepSeg file out x true
  | out, x :: y :: xs => walkSegs file (stepSeg file out x false) (y :: xs)
def isSlash (sp : Bool) (c : UInt8) : Bool := c == 47 || (sp && c == 92)
def walk (file sp : Bool) (path : List Bs) (s : Bs) : List Bs := walkSegs file path (splitB (isSlash sp) s)

/-! ### url -/
structure Url where
  scheme : Bs := []
  user : Bs := []
  pass : Bs := []
  host : Bs := []
  hasHost : Bool := false
  port : Int := 0
  opq : Bool := false
  text : Bs := []
  path : List Bs := []
  hasQuery : Bool := false
  hasFrag : Bool := false
  query : Bs := []
  frag : Bs := []
deriving DecidableEq

def sFtp : Bs := [102, 116, 112]
def sFile : Bs := [102, 105, 108, 101]
def sHttp : Bs := [104, 116, 116, 112]
def sHttps : Bs := [104, 116, 116, 112, 115]
def sWs : Bs := [119, 115]
def sWss : Bs := [119, 115, 115]
def special (s : Bs) : Bool := s == sFtp || s == sFile || s == sHttp || s == sHttps || s == sWs || s == sWss
def defPort (s : Bs) : Int :=
  if s = sFtp then 21 else if s = sHttp then 80 else if s = sHttps then 443 else if s = sWs then 80 else if s = sWss then 443 else -1

end Go.Proofs.YtogpmgjdmoglkaaGreatDoor.Pu
/- Plain words: characters and their bytes, as the program reads them. -/
set_option linter.unusedVariables false
set_option linter.unusedSimpArgs false
namespace Go.Proofs.YtogpmgjdmoglkaaGreatDoor.Pu

/-- The bytes that may follow a first byte, and how many there are then. -/
def uspan (n : Int) : Int × Int × Int :=
  if 194 ≤ n ∧ n ≤ 223 then (128, 191, 2)
  else if n = 224 then (160, 191, 3)
  else if n = 237 then (128, 159, 3)
  else if 225 ≤ n ∧ n ≤ 239 then (128, 191, 3)
  else if n = 240 then (144, 191, 4)
  else if 241 ≤ n ∧ n ≤ 243 then (128, 191, 4)
  else if n = 244 then (128, 143, 4)
  else (0, 0, 0)
/-- How many bytes are read, n of them read already. -/
def contGo (lo hi many : Int) (n : Nat) : Bs → Nat
  | [] => n
  | c :: r => if (n : Int) < many ∧ lo ≤ bI c ∧ bI c ≤ hi then contGo 128 191 many (n + 1) r else n
def ulen (c : UInt8) (r : Bs) : Nat := contGo (uspan (bI c)).1 (uspan (bI c)).2.1 (uspan (bI c)).2.2 1 r
/-- The first character, and how many bytes are read for it. -/
def ufirst (c : UInt8) (r : Bs) : Int × Nat :=
  if bI c < 128 then (bI c, 1)
  else if (uspan (bI c)).2.2 = 0 ∨ (ulen c r : Int) < (uspan (bI c)).2.2 then (65533, ulen c r)
  else (((Lib.decodeGo ⟨((c :: r).take (ulen c r)).toArray⟩).1 : Int), ulen c r)
theorem contGo_bd (many : Int) (r : Bs) : ∀ (lo hi : Int) (n : Nat), n ≤ contGo lo hi many n r ∧ contGo lo hi many n r ≤ n + r.length := by
  induction r with
  | nil => intro lo hi n; simp [contGo]
  | cons c r ih =>
    intro lo hi n
    simp only [contGo]
    split
    · have := ih 128 191 (n + 1)
      simp; omega
    · simp
theorem ufirst_bd (c : UInt8) (r : Bs) : 1 ≤ (ufirst c r).2 ∧ (ufirst c r).2 ≤ r.length + 1 := by
  have h := contGo_bd (uspan (bI c)).2.2 r (uspan (bI c)).1 (uspan (bI c)).2.1 1
  unfold ufirst ulen
  split
  · simp
  · split <;> (simp only; omega)
/-- The characters of bytes. -/
def decL (l : Bs) : List Int :=
  match l with
  | [] => []
  | c :: r => (ufirst c r).1 :: decL ((c :: r).drop (ufirst c r).2)
termination_by l.length
decreasing_by
  have := (ufirst_bd c r).1
  simp
  omega
def encL (rs : List Int) : Bs := rs.flatMap Lib.encodeRune
end Go.Proofs.YtogpmgjdmoglkaaGreatDoor.Pu
/- Plain words: layer 3 (base): bytes' letters, letters' bytes; by the program's way and by the document's, bit by bit. -/
set_option linter.unusedVariables false
set_option linter.unusedSimpArgs false
namespace Go.Proofs.YtogpmgjdmoglkaaGreatDoor.Pu

def let64 (n : Nat) : UInt8 := UInt8.ofNat (if n < 26 then 65 + n else if n < 52 then 71 + n else if n < 62 then n - 4 else if n = 62 then 43 else 47)
def num64 (c : UInt8) : Option Nat :=
  if 65 ≤ c.toNat ∧ c.toNat ≤ 90 then some (c.toNat - 65) else if 97 ≤ c.toNat ∧ c.toNat ≤ 122 then some (c.toNat - 71)
  else if 48 ≤ c.toNat ∧ c.toNat ≤ 57 then some (c.toNat + 4) else if c = 43 then some 62 else if c = 47 then some 63 else none
theorem num_let : ∀ n : Nat, n < 64 → num64 (let64 n) = some n := by decide
theorem num64_lt (c : UInt8) (n : Nat) (h : num64 c = some n) : n < 64 := by
  unfold num64 at h
  (repeat' split at h) <;> (try injection h with h) <;> first | omega | (cases h; done)
/-- Letters of bytes, three at a time, without what stands at the end. -/
def encU : Bs → List Nat
  | [] => []
  | [a] => [a.toNat / 4, a.toNat % 4 * 16]
  | [a, b] => [a.toNat / 4, a.toNat % 4 * 16 + b.toNat / 16, b.toNat % 16 * 4]
  | a :: b :: c :: r => (a.toNat / 4) :: (a.toNat % 4 * 16 + b.toNat / 16) :: (b.toNat % 16 * 4 + c.toNat / 64) :: (c.toNat % 64) :: encU r
def pad64 (b : Bs) : Bs := match b.length % 3 with | 1 => [61, 61] | 2 => [61] | _ => []
def enc64 (b : Bs) : Bs := (encU b).map let64 ++ pad64 b
theorem encU_lt : ∀ (b : Bs), ∀ n ∈ encU b, n < 64
  | [] => by simp [encU]
  | [a] => by have := a.toNat_lt; simp [encU]; omega
  | [a, b] => by have := a.toNat_lt; have := b.toNat_lt; simp [encU]; omega
  | a :: b :: c :: r => by
    have := a.toNat_lt; have := b.toNat_lt; have := c.toNat_lt
    have ih := encU_lt r
    simp only [encU, List.mem_cons]
    rintro n (rfl | rfl | rfl | rfl | h)
    · omega
    · omega
    · omega
    · omega
    · exact ih n h

/-- One letter more: the bytes, the bits, how many of them are left. -/
def dstep (p : Bs × Nat × Nat) (x : Nat) : Bs × Nat × Nat :=
  if 2 ≤ p.2.2 then (p.1 ++ [UInt8.ofNat (((p.2.1 * 64) % 65536 + x) / 2 ^ (p.2.2 - 2))], (p.2.1 * 64) % 65536 + x, p.2.2 - 2)
  else (p.1, (p.2.1 * 64) % 65536 + x, p.2.2 + 6)
def dec64 (xs : List Nat) : Bs := (xs.foldl dstep ([], 0, 0)).1
/-- The bytes of letters' numbers, four at a time. -/
def dec4 : List Nat → Bs
  | x :: y :: z :: v :: r => UInt8.ofNat (x * 4 + y / 16) :: UInt8.ofNat (y % 16 * 16 + z / 4) :: UInt8.ofNat (z % 4 * 64 + v) :: dec4 r
  | [x, y, z] => [UInt8.ofNat (x * 4 + y / 16), UInt8.ofNat (y % 16 * 16 + z / 4)]
  | [x, y] => [UInt8.ofNat (x * 4 + y / 16)]
  | _ => []
theorem u8_of (a b : Nat) (h : a % 256 = b % 256) : UInt8.ofNat a = UInt8.ofNat b := by
  apply UInt8.toNat_inj.1
  simpa using h
theorem d0 (out : Bs) (bits x : Nat) : dstep (out, bits, 0) x = (out, (bits * 64) % 65536 + x, 6) := rfl
theorem d6 (out : Bs) (bits x : Nat) : dstep (out, bits, 6) x = (out ++ [UInt8.ofNat (((bits * 64) % 65536 + x) / 16)], (bits * 64) % 65536 + x, 4) := rfl
theorem d4 (out : Bs) (bits x : Nat) : dstep (out, bits, 4) x = (out ++ [UInt8.ofNat (((bits * 64) % 65536 + x) / 4)], (bits * 64) % 65536 + x, 2) := rfl
theorem d2 (out : Bs) (bits x : Nat) : dstep (out, bits, 2) x = (out ++ [UInt8.ofNat (((bits * 64) % 65536 + x) / 1)], (bits * 64) % 65536 + x, 0) := rfl
theorem dec_fold : ∀ (xs : List Nat), (∀ x ∈ xs, x < 64) → ∀ (out : Bs) (bits : Nat), (xs.foldl dstep (out, bits, 0)).1 = out ++ dec4 xs
  | [], _, out, bits => by simp [dec4]
  | [x], _, out, bits => by simp [dstep, dec4]
  | [x, y], h, out, bits => by
    have hx := h x (by simp); have hy := h y (by simp)
    simp only [List.foldl, d0, d6, dec4]
    rw [u8_of ((((bits * 64) % 65536 + x) * 64 % 65536 + y) / 16) (x * 4 + y / 16) (by omega)]
  | [x, y, z], h, out, bits => by
    have hx := h x (by simp); have hy := h y (by simp); have hz := h z (by simp)
    simp only [List.foldl, d0, d6, d4, dec4]
    generalize hB : (bits * 64) % 65536 = B
    rw [u8_of (((B + x) * 64 % 65536 + y) / 16) (x * 4 + y / 16) (by omega), u8_of ((((B + x) * 64 % 65536 + y) * 64 % 65536 + z) / 4) (y % 16 * 16 + z / 4) (by omega)]
    simp only [List.append_assoc, List.singleton_append]
  | x :: y :: z :: v :: r, h, out, bits => by
    have hx := h x (by simp); have hy := h y (by simp); have hz := h z (by simp); have hv := h v (by simp)
    have ih := dec_fold r (fun w hw => h w (by simp [hw]))
    simp only [List.foldl, d0, d6, d4, d2, dec4]
    rw [ih]
    generalize hB : (bits * 64) % 65536 = B
    rw [u8_of (((B + x) * 64 % 65536 + y) / 16) (x * 4 + y / 16) (by omega), u8_of ((((B + x) * 64 % 65536 + y) * 64 % 65536 + z) / 4) (y % 16 * 16 + z / 4) (by omega),
      u8_of (((((B + x) * 64 % 65536 + y) * 64 % 65536 + z) * 64 % 65536 + v) / 1) (z % 4 * 64 + v) (by omega)]
    simp only [List.append_assoc, List.singleton_append, List.cons_append, List.nil_append]
theorem dec64_eq (xs : List Nat) (h : ∀ x ∈ xs, x < 64) : dec64 xs = dec4 xs := by
  unfold dec64
  rw [dec_fold xs h]
  simp

/-! ### the document's way: bit by bit -/
def bit6 (xs : List Nat) (j : Nat) : Nat := xs.getD (j / 6) 0 / 2 ^ (5 - j % 6) % 2
def byte6 (xs : List Nat) (m : Nat) : Nat :=
  128 * bit6 xs (8 * m) + 64 * bit6 xs (8 * m + 1) + 32 * bit6 xs (8 * m + 2) + 16 * bit6 xs (8 * m + 3) + 8 * bit6 xs (8 * m + 4) + 4 * bit6 xs (8 * m + 5) + 2 * bit6 xs (8 * m + 6) + bit6 xs (8 * m + 7)
def decR (xs : List Nat) : Bs := (List.range (6 * xs.length / 8)).map fun m => UInt8.ofNat (byte6 xs m)
theorem bit6_shift (x y z v : Nat) (r : List Nat) (j : Nat) : bit6 (x :: y :: z :: v :: r) (j + 24) = bit6 r j := by
  unfold bit6
  rw [show (j + 24) / 6 = j / 6 + 4 from by omega, show (j + 24) % 6 = j % 6 from by omega]
  simp
theorem byte6_shift (x y z v : Nat) (r : List Nat) (m : Nat) : byte6 (x :: y :: z :: v :: r) (m + 3) = byte6 r m := by
  unfold byte6
  rw [show 8 * (m + 3) = 8 * m + 24 from by omega, show 8 * m + 24 + 1 = 8 * m + 1 + 24 from by omega, show 8 * m + 24 + 2 = 8 * m + 2 + 24 from by omega, show 8 * m + 24 + 3 = 8 * m + 3 + 24 from by omega,
    show 8 * m + 24 + 4 = 8 * m + 4 + 24 from by omega, show 8 * m + 24 + 5 = 8 * m + 5 + 24 from by omega, show 8 * m + 24 + 6 = 8 * m + 6 + 24 from by omega, show 8 * m + 24 + 7 = 8 * m + 7 + 24 from by omega]
  simp only [bit6_shift]
theorem byte6_0 (x y : Nat) (r : List Nat) (hx : x < 64) (hy : y < 64) : byte6 (x :: y :: r) 0 = x * 4 + y / 16 := by
  simp [byte6, bit6]; omega
theorem byte6_1 (x y z : Nat) (r : List Nat) (hy : y < 64) (hz : z < 64) : byte6 (x :: y :: z :: r) 1 = y % 16 * 16 + z / 4 := by
  simp [byte6, bit6]; omega
theorem byte6_2 (x y z v : Nat) (r : List Nat) (hz : z < 64) (hv : v < 64) : byte6 (x :: y :: z :: v :: r) 2 = z % 4 * 64 + v := by
  simp [byte6, bit6]; omega
theorem decR_eq : ∀ (xs : List Nat), (∀ x ∈ xs, x < 64) → decR xs = dec4 xs
  | [], _ => rfl
  | [x], _ => by simp [decR, dec4]
  | [x, y], h => by
    have hx := h x (by simp); have hy := h y (by simp)
    simp [decR, dec4, List.range_succ, byte6_0 x y [] hx hy]
  | [x, y, z], h => by
    have hx := h x (by simp); have hy := h y (by simp); have hz := h z (by simp)
    simp [decR, dec4, List.range_succ, byte6_0 x y [z] hx hy, byte6_1 x y z [] hy hz]
  | x :: y :: z :: v :: r, h => by
    have hx := h x (by simp); have hy := h y (by simp); have hz := h z (by simp); have hv := h v (by simp)
    have ih := decR_eq r (fun w hw => h w (by simp [hw]))
    have hl : 6 * (x :: y :: z :: v :: r).length / 8 = 6 * r.length / 8 + 1 + 1 + 1 := by simp; omega
    rw [dec4, ← ih]
    unfold decR
    rw [hl, List.range_succ_eq_map, List.range_succ_eq_map, List.range_succ_eq_map]
    simp only [List.map_cons, List.map_map, byte6_0 x y _ hx hy]
    congr 1
    congr 1
    · show UInt8.ofNat (byte6 _ 1) = _
      rw [byte6_1 x y z _ hy hz]
    · congr 1
      · show UInt8.ofNat (byte6 _ 2) = _
        rw [byte6_2 x y z v _ hz hv]
      · apply List.map_congr_left
        intro m _
        show UInt8.ofNat (byte6 _ (m + 3)) = _
        rw [byte6_shift]

/-! ### bits of bytes: the document's letters -/
def bit8 (b : Bs) (j : Nat) : Nat := (b.getD (j / 8) 0).toNat / 2 ^ (7 - j % 8) % 2
def six8 (b : Bs) (g : Nat) : Nat :=
  32 * bit8 b (6 * g) + 16 * bit8 b (6 * g + 1) + 8 * bit8 b (6 * g + 2) + 4 * bit8 b (6 * g + 3) + 2 * bit8 b (6 * g + 4) + bit8 b (6 * g + 5)
def encR (b : Bs) : List Nat := (List.range ((8 * b.length + 5) / 6)).map (six8 b)
theorem bit8_shift (x y z : UInt8) (r : Bs) (j : Nat) : bit8 (x :: y :: z :: r) (j + 24) = bit8 r j := by
  unfold bit8
  rw [show (j + 24) / 8 = j / 8 + 3 from by omega, show (j + 24) % 8 = j % 8 from by omega]
  simp
theorem six8_shift (x y z : UInt8) (r : Bs) (g : Nat) : six8 (x :: y :: z :: r) (g + 4) = six8 r g := by
  unfold six8
  rw [show 6 * (g + 4) = 6 * g + 24 from by omega, show 6 * g + 24 + 1 = 6 * g + 1 + 24 from by omega, show 6 * g + 24 + 2 = 6 * g + 2 + 24 from by omega, show 6 * g + 24 + 3 = 6 * g + 3 + 24 from by omega,
    show 6 * g + 24 + 4 = 6 * g + 4 + 24 from by omega, show 6 * g + 24 + 5 = 6 * g + 5 + 24 from by omega]
  simp only [bit8_shift]
theorem encR_eq : ∀ (b : Bs), encR b = encU b
  | [] => rfl
  | [x] => by
    have hx := x.toNat_lt
    simp [encR, encU, List.range_succ, six8, bit8]; omega
  | [x, y] => by
    have hx := x.toNat_lt; have hy := y.toNat_lt
    simp [encR, encU, List.range_succ, six8, bit8]; omega
  | x :: y :: z :: r => by
    have hx := x.toNat_lt; have hy := y.toNat_lt; have hz := z.toNat_lt
    have ih := encR_eq r
    have hl : (8 * (x :: y :: z :: r).length + 5) / 6 = (8 * r.length + 5) / 6 + 1 + 1 + 1 + 1 := by simp; omega
    rw [encU, ← ih]
    unfold encR
    rw [hl, List.range_succ_eq_map, List.range_succ_eq_map, List.range_succ_eq_map, List.range_succ_eq_map]
    simp only [List.map_cons, List.map_map]
    congr 1
    · simp [six8, bit8]; omega
    congr 1
    · show six8 _ 1 = _
      simp [six8, bit8]; omega
    congr 1
    · show six8 _ 2 = _
      simp [six8, bit8]; omega
    congr 1
    · show six8 _ 3 = _
      simp [six8, bit8]; omega
    · apply List.map_congr_left
      intro m _
      show six8 _ (m + 4) = _
      rw [six8_shift]

/-! ### squeezed -/
def blank64 (c : UInt8) : Bool := c == 9 || c == 10 || c == 12 || c == 13 || c == 32
def strip64 (t : Bs) : Bs :=
  if t.length % 4 = 0 ∧ t.getLast? = some 61 then (if t.dropLast.getLast? = some 61 then t.dropLast.dropLast else t.dropLast) else t
def squeeze (s : Bs) : Bs := strip64 (s.filter fun c => !blank64 c)
/-- The numbers of letters, if all are. -/
def nums64 : Bs → Option (List Nat)
  | [] => some []
  | c :: r => match num64 c, nums64 r with
    | some n, some l => some (n :: l)
    | _, _ => none
def decT (t : Bs) : Option Bs := if t.length % 4 = 1 then none else (nums64 t).map dec64
def decB (s : Bs) : Option Bs := decT (squeeze s)
theorem nums_lt : ∀ (t : Bs) (l : List Nat), nums64 t = some l → (∀ x ∈ l, x < 64) ∧ l.length = t.length
  | [], l, h => by simp [nums64] at h; subst h; simp
  | c :: r, l, h => by
    unfold nums64 at h
    split at h
    · rename_i n l' h1 h2
      injection h with h; subst h
      have ih := nums_lt r l' h2
      have hn := num64_lt c n h1
      simp; exact ⟨⟨hn, ih.1⟩, ih.2⟩
    · cases h
theorem nums_map : ∀ (l : List Nat), (∀ x ∈ l, x < 64) → nums64 (l.map let64) = some l
  | [], _ => rfl
  | n :: l, h => by
    have ih := nums_map l (fun x hx => h x (by simp [hx]))
    simp [nums64, ih, num_let n (h n (by simp))]
theorem nums_none {t : Bs} {c : UInt8} (hc : c ∈ t) (hn : num64 c = none) : nums64 t = none := by
  induction t with
  | nil => cases hc
  | cons d r ih =>
    rcases List.mem_cons.1 hc with rfl | h
    · simp [nums64, hn]
    · simp [nums64, ih h]
theorem dec4_encU : ∀ (b : Bs), dec4 (encU b) = b
  | [] => rfl
  | [x] => by
    have hx := x.toNat_lt
    simp only [encU, dec4]
    rw [u8_of _ x.toNat (by omega)]; simp
  | [x, y] => by
    have hx := x.toNat_lt; have hy := y.toNat_lt
    simp only [encU, dec4]
    rw [u8_of _ x.toNat (by omega), u8_of (_ % 16 * 16 + _) y.toNat (by omega)]; simp
  | x :: y :: z :: r => by
    have hx := x.toNat_lt; have hy := y.toNat_lt; have hz := z.toNat_lt
    simp only [encU, dec4]
    rw [dec4_encU r, u8_of _ x.toNat (by omega), u8_of (_ % 16 * 16 + _) y.toNat (by omega), u8_of (_ % 4 * 64 + _) z.toNat (by omega)]; simp
theorem encU_length : ∀ (b : Bs), (encU b).length = (4 * b.length + 2) / 3
  | [] => rfl
  | [x] => by simp [encU]
  | [x, y] => by simp [encU]
  | x :: y :: z :: r => by
    simp only [encU, List.length_cons, encU_length r]; omega
theorem pad64_length (b : Bs) : (pad64 b).length = (3 - b.length % 3) % 3 := by
  have : b.length % 3 = 0 ∨ b.length % 3 = 1 ∨ b.length % 3 = 2 := by omega
  rcases this with h | h | h <;> simp [pad64, h]
theorem enc64_length (b : Bs) : (enc64 b).length = (b.length + 2) / 3 * 4 := by
  simp only [enc64, List.length_append, List.length_map, encU_length, pad64_length]; omega
theorem let64_plain : ∀ n : Nat, n < 64 → blank64 (let64 n) = false ∧ let64 n ≠ 61 := by decide
theorem filter_enc (b : Bs) : (enc64 b).filter (fun c => !blank64 c) = enc64 b := by
  rw [List.filter_eq_self]
  intro c hc
  simp only [enc64, List.mem_append, List.mem_map] at hc
  rcases hc with ⟨n, hn, rfl⟩ | hc
  · rw [(let64_plain n (encU_lt b n hn)).1]; rfl
  · have : b.length % 3 = 0 ∨ b.length % 3 = 1 ∨ b.length % 3 = 2 := by omega
    rcases this with h | h | h <;> simp [pad64, h] at hc <;> subst hc <;> rfl
theorem last_let (l : List Nat) (h : ∀ x ∈ l, x < 64) : (l.map let64).getLast? ≠ some 61 := by
  intro e
  rw [List.getLast?_eq_some_iff] at e
  obtain ⟨ys, hy⟩ := e
  have : (61 : UInt8) ∈ l.map let64 := by rw [hy]; simp
  obtain ⟨n, hn, he⟩ := List.mem_map.1 this
  exact (let64_plain n (h n hn)).2 he
theorem squeeze_enc (b : Bs) : squeeze (enc64 b) = (encU b).map let64 := by
  unfold squeeze
  rw [filter_enc]
  have hl := enc64_length b
  have h4 : (enc64 b).length % 4 = 0 := by omega
  have hu := encU_length b
  have hlast := last_let (encU b) (encU_lt b)
  unfold strip64
  have : b.length % 3 = 0 ∨ b.length % 3 = 1 ∨ b.length % 3 = 2 := by omega
  rcases this with h | h | h
  · have he : enc64 b = (encU b).map let64 := by simp [enc64, pad64, h]
    rw [he, if_neg (fun hh => hlast hh.2)]
  · have he : enc64 b = ((encU b).map let64 ++ [61]) ++ [61] := by simp [enc64, pad64, h]
    rw [if_pos ⟨h4, by rw [he]; simp⟩, he, List.dropLast_concat, if_pos (by simp), List.dropLast_concat]
  · have he : enc64 b = (encU b).map let64 ++ [61] := by simp [enc64, pad64, h]
    rw [if_pos ⟨h4, by rw [he]; simp⟩, he, List.dropLast_concat, if_neg hlast]
/-- What is written of bytes is read as the bytes. -/
theorem dec_enc (b : Bs) : decB (enc64 b) = some b := by
  unfold decB decT
  rw [squeeze_enc, nums_map _ (encU_lt b)]
  have hu := encU_length b
  rw [if_neg (by rw [List.length_map]; omega), Option.map_some, dec64_eq _ (encU_lt b), dec4_encU]
end Go.Proofs.YtogpmgjdmoglkaaGreatDoor.Pu
/- Plain words: layers 4 and 5 (token, mime): tokens, quoted texts, types read and written; what is written of a right type is read as it. -/
set_option linter.unusedVariables false
set_option linter.unusedSimpArgs false
namespace Go.Proofs.YtogpmgjdmoglkaaGreatDoor.Pu

/-! ### tokens -/
def tokSigns : Bs := [33, 35, 36, 37, 38, 39, 42, 43, 45, 46, 94, 95, 96, 124, 126]
def tokenCh (c : UInt8) : Bool := letter (bI c) || digit (bI c) || tokSigns.contains c
def isToken (s : Bs) : Bool := !s.isEmpty && s.all tokenCh
def blankM (c : UInt8) : Bool := c == 9 || c == 10 || c == 13 || c == 32
def trimL (p : UInt8 → Bool) (s : Bs) : Bs := s.dropWhile p
def trimR (p : UInt8 → Bool) (s : Bs) : Bs := (s.reverse.dropWhile p).reverse
def trimB (p : UInt8 → Bool) (s : Bs) : Bs := trimR p (trimL p s)
/-- Tabs, the bytes 20 to 7E, and the characters 80 to FF, each in its two bytes. -/
def quotable : Bs → Bool
  | [] => true
  | [c] => c == 9 || decide (32 ≤ c.toNat ∧ c.toNat ≤ 126)
  | c :: d :: r =>
    if c == 9 || decide (32 ≤ c.toNat ∧ c.toNat ≤ 126) then quotable (d :: r)
    else decide ((c = 194 ∨ c = 195) ∧ 128 ≤ d.toNat ∧ d.toNat ≤ 191) && quotable r
/-- A quoted text's value, and what stands behind its end. -/
def qGo : Bs → Bs × Bs
  | [] => ([], [])
  | [c] => if c = 34 then ([], []) else ([c], [])
  | c :: d :: r =>
    if c = 34 then ([], d :: r)
    else if c = 92 then (d :: (qGo r).1, (qGo r).2)
    else (c :: (qGo (d :: r)).1, (qGo (d :: r)).2)
def quoteC (c : UInt8) : Bs := if c = 34 ∨ c = 92 then [92, c] else [c]
def quote (s : Bs) : Bs := 34 :: s.flatMap quoteC ++ [34]

/-! ### types -/
def not2 (a b : UInt8) (c : UInt8) : Bool := !(c == a || c == b)
def not1 (a : UInt8) (c : UInt8) : Bool := !(c == a)
/-- A parameter's value, behind its =; what is left; false: there is none. -/
def valueOf (s : Bs) : Bs × Bs × Bool :=
  match s with
  | 34 :: r => ((qGo r).1, (qGo r).2.dropWhile (not1 59), true)
  | s => (trimR blankM (s.takeWhile (not1 59)), s.dropWhile (not1 59), !(trimR blankM (s.takeWhile (not1 59))).isEmpty)
theorem qGo_le : ∀ s : Bs, (qGo s).2.length ≤ s.length
  | [] => by simp [qGo]
  | [c] => by simp only [qGo]; split <;> simp
  | c :: d :: r => by
    have h1 := qGo_le r
    have h2 := qGo_le (d :: r)
    simp only [qGo]
    split
    · simp
    · split <;> simp at * <;> omega
theorem dropWhile_le {α : Type} (p : α → Bool) (s : List α) : (s.dropWhile p).length ≤ s.length := (List.dropWhile_sublist p).length_le
theorem valueOf_le (s : Bs) : (valueOf s).2.1.length ≤ s.length := by
  unfold valueOf
  split
  · rename_i r
    have := dropWhile_le (not1 59) (qGo r).2
    have := qGo_le r
    simp; omega
  · exact dropWhile_le _ _
/-- The parameters of what begins with a semicolon, behind those that are there. -/
def paramsGo (acc : List (Bs × Bs)) (s : Bs) : List (Bs × Bs) :=
  match s with
  | [] => acc
  | _ :: r =>
    match hs : (trimL blankM r).dropWhile (not2 59 61) with
    | 61 :: r2 =>
      if (valueOf r2).2.2 && !(acc.any fun p => p.1 == lower ((trimL blankM r).takeWhile (not2 59 61))) && isToken (lower ((trimL blankM r).takeWhile (not2 59 61))) && quotable (valueOf r2).1
      then paramsGo (acc ++ [(lower ((trimL blankM r).takeWhile (not2 59 61)), (valueOf r2).1)]) (valueOf r2).2.1
      else paramsGo acc (valueOf r2).2.1
    | s2 => paramsGo acc s2
termination_by s.length
decreasing_by
  all_goals
    have h1 := congrArg List.length hs
    have h2 := dropWhile_le (not2 59 61) (trimL blankM r)
    have h3 : (trimL blankM r).length ≤ r.length := dropWhile_le _ _
    simp at h1 ⊢
    try have h4 := valueOf_le r2
    omega
structure Mime where
  type : Bs := []
  sub : Bs := []
  params : List (Bs × Bs) := []
deriving DecidableEq
def mparse2 (kind s : Bs) : Option Mime :=
  if isToken kind && isToken (trimR blankM (s.takeWhile (not1 59)))
  then some ⟨lower kind, lower (trimR blankM (s.takeWhile (not1 59))), paramsGo [] (s.dropWhile (not1 59))⟩ else none
def mparse (s : Bs) : Option Mime :=
  match (trimB blankM s).dropWhile (not1 47) with
  | [] => none
  | _ :: r => mparse2 ((trimB blankM s).takeWhile (not1 47)) r
def small (s : Bs) : Bool := isToken s && lower s == s
def paramsOk : List (Bs × Bs) → List (Bs × Bs) → Bool
  | _, [] => true
  | pre, p :: r => !(pre.any fun q => q.1 == p.1) && small p.1 && quotable p.2 && paramsOk (pre ++ [p]) r
def mright (m : Mime) : Bool := paramsOk [] m.params && (small m.type && small m.sub)
def essence (m : Mime) : Bs := m.type ++ 47 :: m.sub
def pvalue (v : Bs) : Bs := if isToken v then v else quote v
def pprint (p : Bs × Bs) : Bs := 59 :: p.1 ++ 61 :: pvalue p.2
def mprint (m : Mime) : Bs := essence m ++ m.params.flatMap pprint
def fallback : Mime := ⟨[116, 101, 120, 116], [112, 108, 97, 105, 110], [([99, 104, 97, 114, 115, 101, 116], [85, 83, 45, 65, 83, 67, 73, 73])]⟩

/-! ### laws -/
set_option maxRecDepth 100000 in
theorem tok_all : ∀ c : UInt8, tokenCh c = true → c ≠ 47 ∧ c ≠ 59 ∧ c ≠ 61 ∧ c ≠ 34 ∧ c ≠ 44 ∧ c ≠ 63 ∧ c ≠ 58 ∧ blankM c = false ∧ 33 ≤ c.toNat ∧ c.toNat ≤ 126 := by
  intro c h
  have h2 : ∀ n : Fin 256, tokenCh ⟨⟨n⟩⟩ = true → (⟨⟨n⟩⟩ : UInt8) ≠ 47 ∧ (⟨⟨n⟩⟩ : UInt8) ≠ 59 ∧ (⟨⟨n⟩⟩ : UInt8) ≠ 61 ∧ (⟨⟨n⟩⟩ : UInt8) ≠ 34 ∧ (⟨⟨n⟩⟩ : UInt8) ≠ 44 ∧ (⟨⟨n⟩⟩ : UInt8) ≠ 63 ∧ (⟨⟨n⟩⟩ : UInt8) ≠ 58 ∧ blankM ⟨⟨n⟩⟩ = false ∧ 33 ≤ n.val ∧ n.val ≤ 126 := by decide
  exact h2 c.toFin h
theorem takeWhile_all {α : Type} {p : α → Bool} {l : List α} (h : ∀ x ∈ l, p x = true) (r : List α) (hr : ∀ x, r.head? = some x → p x = false) : (l ++ r).takeWhile p = l ∧ (l ++ r).dropWhile p = r := by
  induction l with
  | nil =>
    cases r with
    | nil => simp
    | cons x r => have := hr x rfl; simp [this]
  | cons a l ih =>
    have ha := h a (by simp)
    have := ih fun x hx => h x (by simp [hx])
    simp [ha, this.1, this.2]
theorem token_ne {s : Bs} (h : isToken s = true) : s ≠ [] ∧ ∀ c ∈ s, tokenCh c = true := by
  simp only [isToken, Bool.and_eq_true, Bool.not_eq_true', List.all_eq_true, List.isEmpty_eq_false_iff] at h
  exact h
theorem trimR_id {p : UInt8 → Bool} {s : Bs} (h : ∀ c, s.getLast? = some c → p c = false) : trimR p s = s := by
  unfold trimR
  cases hs : s.reverse with
  | nil => have : s = [] := by simpa using hs
           simp [this]
  | cons c r =>
    have : s.getLast? = some c := by rw [List.getLast?_eq_head?_reverse, hs]; rfl
    rw [List.dropWhile_cons, if_neg (by rw [h c this]; simp), ← hs, List.reverse_reverse]
theorem trimL_id {p : UInt8 → Bool} {s : Bs} (h : ∀ c, s.head? = some c → p c = false) : trimL p s = s := by
  cases s with
  | nil => rfl
  | cons c r => simp [trimL, h c rfl]
theorem last_app (a : Bs) {b : Bs} (h : b ≠ []) : (a ++ b).getLast? = b.getLast? := by
  rw [List.getLast?_append]
  cases hb : b.getLast? with
  | none => exact absurd (List.getLast?_eq_none_iff.1 hb) h
  | some c => rfl
theorem getLast_mem {s : Bs} {c : UInt8} (h : s.getLast? = some c) : c ∈ s := List.mem_of_getLast? h
theorem qGo_quote : ∀ (v r : Bs), qGo (v.flatMap quoteC ++ 34 :: r) = (v, r)
  | [], r => by cases r <;> simp [qGo]
  | c :: v, r => by
    have ih := qGo_quote v r
    by_cases h : c = 34 ∨ c = 92
    · have h1 : quoteC c = [92, c] := by simp [quoteC, h]
      simp [h1, qGo, ih]
    · have h1 : quoteC c = [c] := by simp [quoteC, h]
      have h2 : ¬ c = 34 := fun e => h (Or.inl e)
      have h3 : ¬ c = 92 := fun e => h (Or.inr e)
      rw [List.flatMap_cons, h1]
      cases hx : v.flatMap quoteC ++ 34 :: r with
      | nil => simp at hx
      | cons d t =>
        rw [List.append_assoc, hx]
        rw [hx] at ih
        simp [qGo, h2, h3, ih]
theorem value_of (v s : Bs) (hs : ∀ c, s.head? = some c → c = 59) : valueOf (pvalue v ++ s) = (v, s, true) := by
  have hs2 : ∀ x, s.head? = some x → not1 59 x = false := fun x hx => by rw [hs x hx]; rfl
  unfold pvalue
  split
  · rename_i ht
    obtain ⟨hne, hall⟩ := token_ne ht
    have h1 := takeWhile_all (p := not1 59) (l := v) (fun x hx => by have := (tok_all x (hall x hx)).2.1; simp [not1, this]) s hs2
    have h2 : trimR blankM v = v := trimR_id fun c hc => (tok_all c (hall c (getLast_mem hc))).2.2.2.2.2.2.2.1
    unfold valueOf
    split
    · rename_i r he
      cases v with
      | nil => exact absurd rfl hne
      | cons c v =>
        have hc := (tok_all c (hall c (by simp))).2.2.2.1
        injection he with he _
        exact absurd he hc
    · rw [h1.1, h1.2, h2]
      simp [hne]
  · show valueOf (34 :: v.flatMap quoteC ++ [34] ++ s) = _
    rw [List.append_assoc]
    show valueOf (34 :: (v.flatMap quoteC ++ 34 :: s)) = _
    unfold valueOf
    simp only
    rw [qGo_quote]
    simp only
    have := takeWhile_all (p := not1 59) (l := []) (by simp) s hs2
    simp at this
    rw [this.2]
theorem params_print : ∀ (l acc : List (Bs × Bs)), paramsOk acc l = true → paramsGo acc (l.flatMap pprint) = acc ++ l
  | [], acc, _ => by simp [paramsGo]
  | (name, v) :: l, acc, h => by
    simp only [paramsOk, Bool.and_eq_true] at h
    obtain ⟨⟨⟨h1, h2⟩, h3⟩, h4⟩ := h
    have ih := params_print l (acc ++ [(name, v)]) h4
    simp only [small, Bool.and_eq_true, beq_iff_eq] at h2
    obtain ⟨hne, hall⟩ := token_ne h2.1
    have hl : (((name, v) :: l).flatMap pprint) = 59 :: (name ++ 61 :: (pvalue v ++ l.flatMap pprint)) := by simp [pprint]
    have ht : trimL blankM (name ++ 61 :: (pvalue v ++ l.flatMap pprint)) = name ++ 61 :: (pvalue v ++ l.flatMap pprint) := by
      apply trimL_id
      intro c hc
      cases name with
      | nil => exact absurd rfl hne
      | cons d n => simp at hc; subst hc; exact (tok_all d (hall d (by simp))).2.2.2.2.2.2.2.1
    have htk := takeWhile_all (p := not2 59 61) (l := name) (fun x hx => by have := tok_all x (hall x hx); simp [not2, this.2.1, this.2.2.1]) (61 :: (pvalue v ++ l.flatMap pprint)) (by intro x hx; simp at hx; subst hx; rfl)
    have hv := value_of v (l.flatMap pprint) (by
      intro c hc
      cases l with
      | nil => simp at hc
      | cons p l => simp [pprint] at hc; exact hc.symm)
    rw [hl, paramsGo, ht]
    split
    · rename_i r2 he
      rw [htk.2] at he
      injection he with _ he
      subst he
      rw [htk.1, hv, h2.2]
      simp only
      rw [if_pos (by simp at h1 ⊢; exact ⟨⟨h1, h2.1⟩, h3⟩), ih]
      simp
    · rename_i he
      exact absurd htk.2 (he _)
theorem print_last (m : Mime) (h : mright m = true) : ∀ c, (mprint m).getLast? = some c → blankM c = false := by
  intro c hc
  simp only [mright, small, Bool.and_eq_true] at h
  obtain ⟨_, _, hsub, _⟩ := h
  obtain ⟨hne, hall⟩ := token_ne hsub
  have key : ∀ l : List (Bs × Bs), ∀ s : Bs, (∀ c, s.getLast? = some c → blankM c = false) → ∀ c, (s ++ l.flatMap pprint).getLast? = some c → blankM c = false := by
    intro l
    induction l with
    | nil => intro s hs c hc; rw [List.flatMap_nil, List.append_nil] at hc; exact hs c hc
    | cons p l ih =>
      intro s hs c hc
      rw [List.flatMap_cons, ← List.append_assoc] at hc
      refine ih (s ++ pprint p) (fun c hc => ?_) c hc
      have : s ++ pprint p = (s ++ 59 :: p.1 ++ [61]) ++ pvalue p.2 := by simp [pprint]
      rw [this] at hc
      unfold pvalue at hc
      split at hc
      · rename_i ht
        obtain ⟨hn2, hall2⟩ := token_ne ht
        rw [last_app _ hn2] at hc
        exact (tok_all c (hall2 c (getLast_mem hc))).2.2.2.2.2.2.2.1
      · unfold quote at hc
        rw [← List.append_assoc, List.getLast?_concat] at hc
        injection hc with hc
        subst hc; rfl
  refine key m.params (essence m) (fun c hc => ?_) c hc
  unfold essence at hc
  have : m.type ++ 47 :: m.sub = (m.type ++ [47]) ++ m.sub := by simp
  rw [this, last_app _ hne] at hc
  exact (tok_all c (hall c (getLast_mem hc))).2.2.2.2.2.2.2.1
/-- What is written of a right type is read as it. -/
theorem parse_print (m : Mime) (h : mright m = true) : mparse (mprint m) = some m := by
  have hlast := print_last m h
  simp only [mright, small, Bool.and_eq_true, beq_iff_eq] at h
  obtain ⟨hp, ⟨ht, htl⟩, hs, hsl⟩ := h
  obtain ⟨hne, hall⟩ := token_ne ht
  obtain ⟨hne2, hall2⟩ := token_ne hs
  have he : mprint m = m.type ++ 47 :: (m.sub ++ m.params.flatMap pprint) := by simp [mprint, essence]
  have htr : trimB blankM (mprint m) = mprint m := by
    have h1 : trimL blankM (mprint m) = mprint m := by
      apply trimL_id
      intro c hc
      rw [he] at hc
      cases hty : m.type with
      | nil => exact absurd hty hne
      | cons d n => rw [hty] at hc; simp at hc; subst hc; exact (tok_all d (hall d (by rw [hty]; simp))).2.2.2.2.2.2.2.1
    unfold trimB
    rw [h1, trimR_id hlast]
  have h1 := takeWhile_all (p := not1 47) (l := m.type) (fun x hx => by have := (tok_all x (hall x hx)).1; simp [not1, this]) (47 :: (m.sub ++ m.params.flatMap pprint)) (by intro x hx; simp at hx; subst hx; rfl)
  have h2 := takeWhile_all (p := not1 59) (l := m.sub) (fun x hx => by have := (tok_all x (hall2 x hx)).2.1; simp [not1, this]) (m.params.flatMap pprint) (by
    intro x hx
    cases hpp : m.params with
    | nil => rw [hpp] at hx; simp at hx
    | cons p l => rw [hpp] at hx; simp [pprint] at hx; subst hx; rfl)
  have h3 : trimR blankM m.sub = m.sub := trimR_id fun c hc => (tok_all c (hall2 c (getLast_mem hc))).2.2.2.2.2.2.2.1
  unfold mparse
  rw [htr, he, h1.1, h1.2]
  simp only [mparse2, h2.1, h2.2, h3]
  rw [if_pos (by simp [ht, hs]), htl, hsl, params_print _ _ hp]
  simp

/-! ### what is read is right -/
set_option maxRecDepth 100000 in
theorem lowC_low : ∀ c : UInt8, lowC (lowC c) = lowC c := by
  intro c
  have : ∀ n : Fin 256, lowC (lowC ⟨⟨n⟩⟩) = lowC ⟨⟨n⟩⟩ := by decide
  exact this c.toFin
theorem lower_lower (s : Bs) : lower (lower s) = lower s := by simp [lower, lowC_low]
set_option maxRecDepth 100000 in
theorem lowC_tok : ∀ c : UInt8, tokenCh c = true → tokenCh (lowC c) = true := by
  intro c
  have : ∀ n : Fin 256, tokenCh ⟨⟨n⟩⟩ = true → tokenCh (lowC ⟨⟨n⟩⟩) = true := by decide
  exact this c.toFin
theorem small_lower {s : Bs} (h : isToken s = true) : small (lower s) = true := by
  obtain ⟨hne, hall⟩ := token_ne h
  simp only [small, isToken, Bool.and_eq_true, lower_lower, beq_self_eq_true, and_true, Bool.not_eq_true', List.all_eq_true, List.isEmpty_eq_false_iff]
  refine ⟨by simpa [lower] using hne, fun c hc => ?_⟩
  simp only [lower, List.mem_map] at hc
  obtain ⟨d, hd, rfl⟩ := hc
  exact lowC_tok d (hall d hd)
theorem small_lower2 {s : Bs} (h : isToken (lower s) = true) : small (lower s) = true := by
  simp [small, h, lower_lower]
theorem paramsOk_snoc : ∀ (l pre : List (Bs × Bs)) (p : Bs × Bs), paramsOk pre l = true → (pre ++ l).any (fun q => q.1 == p.1) = false → small p.1 = true → quotable p.2 = true → paramsOk pre (l ++ [p]) = true
  | [], pre, p, _, h1, h2, h3 => by
    rw [List.append_nil] at h1
    simp [paramsOk, h1, h2, h3]
  | q :: l, pre, p, h, h1, h2, h3 => by
    simp only [paramsOk, Bool.and_eq_true, List.cons_append] at h ⊢
    exact ⟨h.1, paramsOk_snoc l (pre ++ [q]) p h.2 (by simpa using h1) h2 h3⟩
theorem paramsGo_ok (acc : List (Bs × Bs)) (s : Bs) (h : paramsOk [] acc = true) : paramsOk [] (paramsGo acc s) = true := by
  induction acc, s using paramsGo.induct with
  | case1 acc => rw [paramsGo]; exact h
  | case2 acc c r r2 hs hc ih =>
    rw [paramsGo]
    split
    · rename_i r3 he
      rw [hs] at he
      injection he with _ he
      subst he
      rw [if_pos hc]
      apply ih
      simp only [Bool.and_eq_true, Bool.not_eq_true'] at hc
      exact paramsOk_snoc acc [] _ h (by simpa using hc.1.1.2) (small_lower2 hc.1.2) hc.2
    · rename_i he
      exact absurd hs (he _)
  | case3 acc c r r2 hs hc ih =>
    rw [paramsGo]
    split
    · rename_i r3 he
      rw [hs] at he
      injection he with _ he
      subst he
      rw [if_neg hc]
      exact ih h
    · rename_i he
      exact absurd hs (he _)
  | case4 acc c r hn ih =>
    rw [paramsGo]
    split
    · rename_i r3 he
      exact absurd he (hn _)
    · exact ih h
theorem mparse_right (s : Bs) (m : Mime) (h : mparse s = some m) : mright m = true := by
  unfold mparse at h
  split at h
  · cases h
  · unfold mparse2 at h
    split at h
    · rename_i hc
      injection h with h; subst h
      simp only [Bool.and_eq_true] at hc
      simp only [mright, Bool.and_eq_true]
      exact ⟨paramsGo_ok [] _ rfl, small_lower hc.1, small_lower hc.2⟩
    · cases h
theorem fallback_right : mright fallback = true := by decide
end Go.Proofs.YtogpmgjdmoglkaaGreatDoor.Pu
/- Plain words: one rune of a text, as Go reads it; which texts may stand in quotes, by characters. -/
set_option linter.unusedVariables false
set_option linter.unusedSimpArgs false
namespace Go.Proofs.YtogpmgjdmoglkaaGreatDoor.Pu

/-- What Go reads of a text's begin: a character, and its bytes. -/
def goRune (l : Bs) : Nat × Nat := Utf8.decode ⟨l.toArray⟩ 0
theorem get_list (l : Bs) (k : Nat) : (⟨l.toArray⟩ : ByteArray).get! k = l.getD k 0 := by
  show l.toArray[k]! = _
  simp [List.getD_eq_getElem?_getD, Array.getElem!_eq_getD]
  rfl
theorem decode_drop (l : Bs) (i : Nat) : Utf8.decode ⟨l.toArray⟩ i = goRune (l.drop i) := by
  have hs : ∀ m : Bs, (⟨m.toArray⟩ : ByteArray).size = m.length := fun m => by show m.toArray.size = _; simp
  have hg : ∀ k, (l.drop i).getD k 0 = l.getD (i + k) 0 := fun k => by simp [List.getD_eq_getElem?_getD]
  have hc : ∀ k, decide (0 + k < (l.drop i).length) = decide (i + k < l.length) := fun k => by rw [Bool.eq_iff_iff]; simp; omega
  unfold goRune Utf8.decode
  simp only [get_list, hs, Nat.zero_add, hg]
  have hc1 := hc 1; have hc2 := hc 2; have hc3 := hc 3
  simp only [Nat.zero_add] at hc1 hc2 hc3
  rw [hc1, hc2, hc3]
/-- The rune of a text that begins so. -/
theorem goRune_cons (c : UInt8) (r : Bs) : goRune (c :: r) =
    (let cont (k : Nat) : Bool := decide (k < r.length) && (r.getD k 0).toNat / 64 == 2
     if c.toNat < 128 then (c.toNat, 1)
     else if c.toNat / 32 == 6 && cont 0 then
       (if (c.toNat % 32) * 64 + (r.getD 0 0).toNat % 64 ≥ 128 then ((c.toNat % 32) * 64 + (r.getD 0 0).toNat % 64, 2) else (65533, 1))
     else if c.toNat / 16 == 14 && cont 0 && cont 1 then
       (if (decide ((c.toNat % 16) * 4096 + ((r.getD 0 0).toNat % 64) * 64 + (r.getD 1 0).toNat % 64 ≥ 2048) && Utf8.valid ((c.toNat % 16) * 4096 + ((r.getD 0 0).toNat % 64) * 64 + (r.getD 1 0).toNat % 64 : Nat)) then ((c.toNat % 16) * 4096 + ((r.getD 0 0).toNat % 64) * 64 + (r.getD 1 0).toNat % 64, 3) else (65533, 1))
     else if c.toNat / 8 == 30 && cont 0 && cont 1 && cont 2 then
       (if (decide ((c.toNat % 8) * 262144 + ((r.getD 0 0).toNat % 64) * 4096 + ((r.getD 1 0).toNat % 64) * 64 + (r.getD 2 0).toNat % 64 ≥ 65536) && Utf8.valid ((c.toNat % 8) * 262144 + ((r.getD 0 0).toNat % 64) * 4096 + ((r.getD 1 0).toNat % 64) * 64 + (r.getD 2 0).toNat % 64 : Nat)) then ((c.toNat % 8) * 262144 + ((r.getD 0 0).toNat % 64) * 4096 + ((r.getD 1 0).toNat % 64) * 64 + (r.getD 2 0).toNat % 64, 4) else (65533, 1))
     else (65533, 1)) := by
  have hs : (⟨(c :: r).toArray⟩ : ByteArray).size = r.length + 1 := by show (c :: r).toArray.size = _; simp
  have h1 : decide (1 < r.length + 1) = decide (0 < r.length) := by rw [Bool.eq_iff_iff]; simp
  have h2 : decide (2 < r.length + 1) = decide (1 < r.length) := by rw [Bool.eq_iff_iff]; simp; omega
  have h3 : decide (3 < r.length + 1) = decide (2 < r.length) := by rw [Bool.eq_iff_iff]; simp; omega
  unfold goRune Utf8.decode
  simp only [get_list, hs, Nat.zero_add, List.getD_cons_zero, List.getD_cons_succ, h1, h2, h3, Utf8.runeError]
/-- Bytes below 128 are runes; of others the rune, and all bytes of it, are 128 or more. -/
theorem goRune_low (c : UInt8) (r : Bs) (h : c.toNat < 128) : goRune (c :: r) = (c.toNat, 1) := by
  rw [goRune_cons]
  simp only [h, if_true]
theorem goRune_high (c : UInt8) (r : Bs) (h : ¬ c.toNat < 128) : 128 ≤ (goRune (c :: r)).1 ∧ 1 ≤ (goRune (c :: r)).2 ∧ (goRune (c :: r)).2 ≤ r.length + 1 ∧ ∀ j, j < (goRune (c :: r)).2 → 128 ≤ ((c :: r).getD j 0).toNat := by
  rw [goRune_cons]
  simp only [h, if_false]
  have one : ∀ j, j < 1 → 128 ≤ ((c :: r).getD j 0).toNat := fun j hj => by
    obtain rfl : j = 0 := by omega
    simp; omega
  split
  · rename_i h1
    simp only [Bool.and_eq_true, beq_iff_eq, decide_eq_true_eq] at h1
    split
    · refine ⟨by simp only; omega, by simp, by simp only; omega, fun j hj => ?_⟩
      simp only at hj
      have : j = 0 ∨ j = 1 := by omega
      rcases this with rfl | rfl
      · exact one 0 (by omega)
      · simp; simp at h1; omega
    · exact ⟨by simp, by simp, by simp, fun j hj => one j hj⟩
  · split
    · rename_i h1
      simp only [Bool.and_eq_true, beq_iff_eq, decide_eq_true_eq] at h1
      split
      · rename_i h2
        simp only [Bool.and_eq_true, decide_eq_true_eq] at h2
        refine ⟨by simp only; omega, by simp, by simp only; omega, fun j hj => ?_⟩
        simp only at hj
        have : j = 0 ∨ j = 1 ∨ j = 2 := by omega
        rcases this with rfl | rfl | rfl
        · exact one 0 (by omega)
        · simp; simp at h1; omega
        · simp; simp at h1; omega
      · exact ⟨by simp, by simp, by simp, fun j hj => one j hj⟩
    · split
      · rename_i h1
        simp only [Bool.and_eq_true, beq_iff_eq, decide_eq_true_eq] at h1
        split
        · rename_i h2
          simp only [Bool.and_eq_true, decide_eq_true_eq] at h2
          refine ⟨by simp only; omega, by simp, by simp only; omega, fun j hj => ?_⟩
          simp only at hj
          have : j = 0 ∨ j = 1 ∨ j = 2 ∨ j = 3 := by omega
          rcases this with rfl | rfl | rfl | rfl
          · exact one 0 (by omega)
          · simp; simp at h1; omega
          · simp; simp at h1; omega
          · simp; simp at h1; omega
        · exact ⟨by simp, by simp, by simp, fun j hj => one j hj⟩
      · exact ⟨by simp, by simp, by simp, fun j hj => one j hj⟩
theorem goRune_bd (c : UInt8) (r : Bs) : 1 ≤ (goRune (c :: r)).2 ∧ (goRune (c :: r)).2 ≤ r.length + 1 := by
  by_cases h : c.toNat < 128
  · rw [goRune_low c r h]; simp
  · have := goRune_high c r h
    exact ⟨this.2.1, this.2.2.1⟩
/-- May a rune stand in quotes? -/
def quoteR (n : Nat) : Bool := n == 9 || (decide (32 ≤ n) && decide (n ≤ 126)) || (decide (128 ≤ n) && decide (n ≤ 255))
/-- The first rune decides. -/
theorem quotable_rune (c : UInt8) (r : Bs) : quotable (c :: r) = (quoteR (goRune (c :: r)).1 && quotable ((c :: r).drop (goRune (c :: r)).2)) := by
  by_cases h : c.toNat < 128
  · have hu : (c == 9) = (c.toNat == 9) := by
      rw [Bool.eq_iff_iff]; simp [← UInt8.toNat_inj]
    have h7 : (decide (128 ≤ c.toNat) && decide (c.toNat ≤ 255)) = false := by simp; omega
    have hn : ¬ ((c = 194 ∨ c = 195) ) := by rintro (rfl | rfl) <;> revert h <;> decide
    rw [goRune_low c r h]
    cases r with
    | nil =>
      simp only [quotable, quoteR, hu, List.drop_succ_cons, List.drop_zero, h7, Bool.or_false, Bool.and_true]
      rw [Bool.eq_iff_iff]; simp
    | cons d r =>
      simp only [quotable, quoteR, hu, List.drop_succ_cons, List.drop_zero, h7, Bool.or_false]
      by_cases hq : (c.toNat == 9 || decide (32 ≤ c.toNat ∧ c.toNat ≤ 126)) = true
      · rw [if_pos hq]
        have : (c.toNat == 9 || decide (32 ≤ c.toNat) && decide (c.toNat ≤ 126)) = true := by
          rw [← hq, Bool.eq_iff_iff]; simp
        rw [this, Bool.true_and]
      · rw [if_neg hq]
        have : (c.toNat == 9 || decide (32 ≤ c.toNat) && decide (c.toNat ≤ 126)) = false := by
          have : (c.toNat == 9 || decide (32 ≤ c.toNat ∧ c.toNat ≤ 126)) = false := by simpa using hq
          rw [← this, Bool.eq_iff_iff]; simp
        rw [this]
        simp [hn]
  · have h9 : (c == 9 || decide (32 ≤ c.toNat ∧ c.toNat ≤ 126)) = false := by
      have : c ≠ 9 := by rintro rfl; exact h (by decide)
      simp [this]; omega
    by_cases h2 : (c = 194 ∨ c = 195) ∧ ∃ d t, r = d :: t ∧ 128 ≤ d.toNat ∧ d.toNat ≤ 191
    · obtain ⟨hc, d, t, rfl, hd1, hd2⟩ := h2
      have hg : goRune (c :: d :: t) = ((c.toNat % 32) * 64 + d.toNat % 64, 2) := by
        rw [goRune_cons]
        have e1 : (c.toNat / 32 == 6 && (decide (0 < (d :: t).length) && ((d :: t).getD 0 0).toNat / 64 == 2)) = true := by
          simp; rcases hc with rfl | rfl <;> simp <;> omega
        simp only [h, if_false, e1, if_true]
        rw [if_pos (by simp; rcases hc with rfl | rfl <;> simp <;> omega)]
        simp
      rw [hg]
      have hq : quoteR ((c.toNat % 32) * 64 + d.toNat % 64) = true := by
        simp only [quoteR, Bool.or_eq_true, Bool.and_eq_true, decide_eq_true_eq, beq_iff_eq]
        right; rcases hc with rfl | rfl <;> simp <;> omega
      simp only [quotable, h9, hq]
      simp [hc, hd1, hd2]
    · have hq : quotable (c :: r) = false := by
        cases r with
        | nil => simp only [quotable]; exact h9
        | cons d t =>
          simp only [quotable, h9]
          have : ¬ ((c = 194 ∨ c = 195) ∧ 128 ≤ d.toNat ∧ d.toNat ≤ 191) := fun hh => h2 ⟨hh.1, d, t, rfl, hh.2⟩
          simp [this]
      have hr : quoteR (goRune (c :: r)).1 = false := by
        have key : ∀ n : Nat, 255 < n → quoteR n = false := fun n hn => by simp [quoteR]; omega
        rw [goRune_cons]
        simp only [h, if_false]
        split
        · rename_i h3
          simp only [Bool.and_eq_true, beq_iff_eq, decide_eq_true_eq] at h3
          split
          · rename_i h4
            apply key
            simp only
            have : ¬ (c.toNat = 194 ∨ c.toNat = 195) := by
              intro hh
              apply h2
              refine ⟨by rcases hh with hh | hh
                         · left; exact UInt8.toNat_inj.1 hh
                         · right; exact UInt8.toNat_inj.1 hh, ?_⟩
              cases r with
              | nil => simp at h3
              | cons d t => exact ⟨d, t, rfl, by simp at h3; omega, by simp at h3; omega⟩
            omega
          · exact key _ (by simp)
        · split
          · split
            · rename_i h4
              simp only [Bool.and_eq_true, decide_eq_true_eq] at h4
              exact key _ (by simp only; omega)
            · exact key _ (by simp)
          · split
            · split
              · rename_i h4
                simp only [Bool.and_eq_true, decide_eq_true_eq] at h4
                exact key _ (by simp only; omega)
              · exact key _ (by simp)
            · exact key _ (by simp)
      rw [hq, hr, Bool.false_and]

/-! ### by the document's characters -/
theorem decL_nil : decL [] = [] := by rw [decL]
theorem decL_cons (c : UInt8) (r : Bs) : decL (c :: r) = (ufirst c r).1 :: decL ((c :: r).drop (ufirst c r).2) := by rw [decL]
theorem ufirst_low (c : UInt8) (r : Bs) (h : bI c < 128) : ufirst c r = (bI c, 1) := by simp [ufirst, h]
theorem enc_byte (c : UInt8) (h : bI c < 128) : Lib.encodeRune (bI c) = [c] := by
  have h0 : 0 ≤ bI c := by simp [bI]
  unfold Lib.encodeRune
  rw [Lib.encodeRuneZ_one h0 (by omega)]
  simp [bI]
/-- Of texts whose bytes are all below 128 the characters are the bytes. -/
theorem enc_dec_low : ∀ (l : Bs), (∀ c ∈ l, c.toNat < 128) → encL (decL l) = l
  | [], _ => by rw [decL_nil]; rfl
  | c :: r, h => by
    have hc : bI c < 128 := by have := h c (by simp); simp [bI]; omega
    rw [decL_cons, ufirst_low c r hc]
    simp only [List.drop_succ_cons, List.drop_zero]
    have ih := enc_dec_low r fun d hd => h d (by simp [hd])
    show Lib.encodeRune (bI c) ++ encL (decL r) = _
    rw [enc_byte c hc, ih]; rfl
/-- A text whose first bytes are below 128 keeps them. -/
theorem enc_dec_head : ∀ (p l : Bs), (∀ c ∈ p, c.toNat < 128) → encL (decL (p ++ l)) = p ++ encL (decL l)
  | [], l, _ => rfl
  | c :: p, l, h => by
    have hc : bI c < 128 := by have := h c (by simp); simp [bI]; omega
    rw [List.cons_append, decL_cons, ufirst_low c _ hc]
    simp only [List.drop_succ_cons, List.drop_zero]
    have ih := enc_dec_head p l fun d hd => h d (by simp [hd])
    show Lib.encodeRune (bI c) ++ encL (decL (p ++ l)) = _
    rw [enc_byte c hc, ih]; rfl
end Go.Proofs.YtogpmgjdmoglkaaGreatDoor.Pu
/- Plain words: what strings.Map leaves of a text for base64. -/
set_option linter.unusedVariables false
set_option linter.unusedSimpArgs false
namespace Go.Proofs.YtogpmgjdmoglkaaGreatDoor.Pu

/-- The mapping of base.squeeze. -/
def dropB (x : Int) : Int := if x = 9 ∨ x = 10 ∨ x = 12 ∨ x = 13 ∨ x = 32 then -1 else x
theorem dec_go (l : Bs) : Lib.decodeL l = goRune l := rfl
theorem enc_low (c : UInt8) (h : c.toNat < 128) : Lib.encodeRune (c.toNat : Int) = [c] := by
  unfold Lib.encodeRune
  rw [Lib.encodeRuneZ_one (by omega) (by omega)]
  simp
theorem map_low : ∀ l : Bs, (∀ c ∈ l, c.toNat < 128) → Lib.mapD dropB l = l.filter fun c => !blank64 c
  | [], _ => rfl
  | c :: r, h => by
    have hc := h c (by simp)
    rw [Lib.mapD_step _ _ (by simp), dec_go, goRune_low c r hc]
    simp only [List.drop_succ_cons, List.drop_zero]
    rw [map_low r (fun x hx => h x (by simp [hx])), List.filter_cons]
    by_cases hb : blank64 c = true
    · have hn : c.toNat = 9 ∨ c.toNat = 10 ∨ c.toNat = 12 ∨ c.toNat = 13 ∨ c.toNat = 32 := by
        simp only [blank64, Bool.or_eq_true, beq_iff_eq] at hb
        rcases hb with (((hb | hb) | hb) | hb) | hb <;> rw [hb] <;> decide
      have hd : dropB (c.toNat : Int) = -1 := by unfold dropB; rw [if_pos (by omega)]
      rw [hd]
      simp [hb]
    · have hb2 : blank64 c = false := by simpa using hb
      have hn : ¬ ((c.toNat : Int) = 9 ∨ (c.toNat : Int) = 10 ∨ (c.toNat : Int) = 12 ∨ (c.toNat : Int) = 13 ∨ (c.toNat : Int) = 32) := by
        simp only [blank64, Bool.or_eq_false_iff, beq_eq_false_iff_ne, ne_eq, ← UInt8.toNat_inj] at hb2
        simp at hb2
        omega
      have hd : dropB (c.toNat : Int) = c.toNat := by unfold dropB; rw [if_neg hn]
      rw [hd, enc_low c hc]
      simp [hb2]
theorem map_high : ∀ (n : Nat) (l : Bs), l.length ≤ n → (∃ c ∈ l, 128 ≤ c.toNat) → ∃ c ∈ Lib.mapD dropB l, 128 ≤ c.toNat
  | 0, l, hn, ⟨c, hc, _⟩ => by
    have : l = [] := List.eq_nil_of_length_eq_zero (by omega)
    subst this; cases hc
  | n + 1, [], _, ⟨c, hc, _⟩ => by cases hc
  | n + 1, x :: r, hn, ⟨c, hc, h⟩ => by
    rw [Lib.mapD_step _ _ (by simp), dec_go]
    by_cases hx : x.toNat < 128
    · rw [goRune_low x r hx]
      simp only [List.drop_succ_cons, List.drop_zero]
      have : c ∈ r := by
        rcases List.mem_cons.1 hc with rfl | hc
        · omega
        · exact hc
      obtain ⟨d, hd, h2⟩ := map_high n r (by simp at hn; omega) ⟨c, this, h⟩
      exact ⟨d, by simp [hd], h2⟩
    · have hg := goRune_high x r hx
      have hf : dropB ((goRune (x :: r)).1 : Int) = (goRune (x :: r)).1 := by unfold dropB; rw [if_neg (by omega)]
      rw [hf, if_pos (by omega)]
      by_cases hv : (Lib.decodeL (x :: r)).1 = 65533 ∧ (Lib.decodeL (x :: r)).2 = 1
      · rw [dec_go] at hv
        rw [hv.1]
        exact ⟨239, by simp [Lib.encodeRune, Lib.encodeRuneZ], by decide⟩
      · have he := Lib.encode_decode (x :: r) (by simp) hv
        rw [dec_go] at he
        rw [he]
        refine ⟨x, ?_, by omega⟩
        obtain ⟨m, hm⟩ : ∃ m, (goRune (x :: r)).2 = m + 1 := ⟨(goRune (x :: r)).2 - 1, by omega⟩
        rw [hm]
        simp
set_option maxRecDepth 100000 in
theorem nums_high : ∀ t : Bs, (∃ c ∈ t, 128 ≤ c.toNat) → nums64 t = none
  | [], ⟨c, hc, _⟩ => by cases hc
  | x :: r, ⟨c, hc, h⟩ => by
    unfold nums64
    rcases List.mem_cons.1 hc with rfl | hc
    · have : num64 c = none := by
        have key : ∀ n : _root_.Fin 256, 128 ≤ n.val → num64 ⟨⟨n⟩⟩ = none := by decide
        exact key c.toFin h
      rw [this]
    · rw [nums_high r ⟨c, hc, h⟩]
      cases num64 x <;> rfl
theorem strip_high (t : Bs) (h : ∃ c ∈ t, 128 ≤ c.toNat) : ∃ c ∈ strip64 t, 128 ≤ c.toNat := by
  have key : ∀ t : Bs, (∃ c ∈ t, 128 ≤ c.toNat) → t.getLast? = some 61 → ∃ c ∈ t.dropLast, 128 ≤ c.toNat := by
    intro t ⟨c, hc, h⟩ hl
    have hne : t ≠ [] := by intro e; rw [e] at hc; cases hc
    have ht := List.dropLast_concat_getLast hne
    rw [List.getLast?_eq_some_getLast hne] at hl
    injection hl with hl
    rw [hl] at ht
    rw [← ht] at hc
    rcases List.mem_append.1 hc with hc | hc
    · exact ⟨c, hc, h⟩
    · simp at hc; subst hc; exact absurd h (by decide)
  unfold strip64
  split
  · rename_i h1
    have h2 := key t h h1.2
    split
    · rename_i h3
      exact key _ h2 h3
    · exact h2
  · exact h
theorem decT_high (t : Bs) (h : ∃ c ∈ t, 128 ≤ c.toNat) : decT (strip64 t) = none := by
  unfold decT
  rw [nums_high _ (strip_high t h)]
  split <;> rfl
set_option maxRecDepth 100000 in
/-- What strings.Map leaves says the same. -/
theorem dec_map (l : Bs) : decT (strip64 (Lib.mapD dropB l)) = decB l := by
  by_cases h : ∀ c ∈ l, c.toNat < 128
  · rw [map_low l h]; rfl
  · have h2 : ∃ c ∈ l, 128 ≤ c.toNat := by
      obtain ⟨c, hc⟩ := Classical.not_forall.1 h
      obtain ⟨hc, h3⟩ := Classical.not_imp.1 hc
      exact ⟨c, hc, by omega⟩
    rw [decT_high _ (map_high l.length l (Nat.le_refl _) h2)]
    obtain ⟨c, hc, h3⟩ := h2
    unfold decB squeeze
    rw [decT_high]
    refine ⟨c, ?_, h3⟩
    rw [List.mem_filter]
    refine ⟨hc, ?_⟩
    have key : ∀ n : _root_.Fin 256, 128 ≤ n.val → (!blank64 ⟨⟨n⟩⟩) = true := by decide
    exact key c.toFin h3
theorem encodeZ_len (r : Int) : (Lib.encodeRune r).length ≤ 4 := by
  unfold Lib.encodeRune Lib.encodeRuneZ
  rw [List.length_map]
  split
  · simp
  · split
    · simp
    · split
      · simp
      · split <;> simp
theorem map_len (f : Int → Int) : ∀ (n : Nat) (l : Bs), l.length ≤ n → (Lib.mapD f l).length ≤ 4 * l.length
  | 0, l, hn => by
    have : l = [] := List.eq_nil_of_length_eq_zero (by omega)
    subst this; simp [Lib.mapD_nil]
  | n + 1, [], _ => by simp [Lib.mapD_nil]
  | n + 1, x :: r, hn => by
    have hb := goRune_bd x r
    have hd : ((x :: r).drop (goRune (x :: r)).2).length = (x :: r).length - (goRune (x :: r)).2 := by simp
    have ih := map_len f n ((x :: r).drop (goRune (x :: r)).2) (by rw [hd]; simp at hn ⊢; omega)
    rw [Lib.mapD_step _ _ (by simp), dec_go, List.length_append]
    have h4 := encodeZ_len (f (goRune (x :: r)).1)
    rw [hd] at ih
    simp only [List.length_cons] at *
    split <;> simp at * <;> omega
theorem strip_len (t : Bs) : (strip64 t).length ≤ t.length := by
  unfold strip64
  split
  · split <;> simp <;> omega
  · exact Nat.le_refl _
end Go.Proofs.YtogpmgjdmoglkaaGreatDoor.Pu
/- Plain words: how a text is parsed without a base, by the program's parts and by the document's machine with states; both answer the same. -/
set_option linter.unusedVariables false
set_option linter.unusedSimpArgs false
namespace Go.Proofs.YtogpmgjdmoglkaaGreatDoor.Pu

/-! ### the program's way -/
def cutB (c : UInt8) : Bs → Bs × Bs × Bool
  | [] => ([], [], false)
  | x :: r => if x = c then ([], r, true) else (x :: (cutB c r).1, (cutB c r).2.1, (cutB c r).2.2)
def schemeCh (c : UInt8) : Bool := letter (bI c) || digit (bI c) || c == 43 || c == 45 || c == 46
def schemeOk (name : Bs) (ok : Bool) : Bool := ok && (match name with | [] => false | c :: _ => letter (bI c)) && name.all schemeCh
def schemeOf (s : Bs) : Option (Bs × Bs) :=
  if schemeOk (cutB 58 s).1 (cutB 58 s).2.2 then some (lower (cutB 58 s).1, (cutB 58 s).2.1) else none
def inNext (c : UInt8) (ins : Bool) : Bool := if c = 91 then true else if c = 93 then false else ins
/-- The text ahead of the port's colon; the text behind it. -/
def colonCut : Bool → Bs → Bs × Option Bs
  | _, [] => ([], none)
  | ins, c :: r => if c = 58 ∧ ins = false then ([], some r) else (c :: (colonCut (inNext c ins) r).1, (colonCut (inNext c ins) r).2)
def portNum : Int → Bs → Option Int
  | n, [] => some n
  | n, c :: r => if digit (bI c) then portNum (min (n * 10 + (bI c - 48)) 65536) r else none
def portOf (sch s : Bs) : Option Int :=
  match portNum 0 s with
  | none => none
  | some n => if s = [] ∨ n = defPort sch then some (-1) else if n ≤ 65535 then some n else none
def pathOf (file sp : Bool) (s : Bs) : List Bs :=
  match s with
  | [] => if sp then walk file sp [] [] else []
  | c :: r => if isSlash sp c then walk file sp [] r else walk file sp [] (c :: r)
/-- A text, cut at its last @. -/
def lastAt : Bs → Option (Bs × Bs)
  | [] => none
  | c :: r => match lastAt r with
    | some (a, b) => some (c :: a, b)
    | none => if c = 64 then some ([], r) else none
def notSlash (sp : Bool) (c : UInt8) : Bool := !isSlash sp c

section
variable (H : Bs → Bool → Option Bs)
def meetOf (sch s : Bs) : Option (Bs × Int) :=
  match (colonCut false s).2 with
  | none => (H (colonCut false s).1 (special sch)).map fun x => (x, -1)
  | some t => match portOf sch t, H (colonCut false s).1 (special sch) with
    | some n, some x => if (colonCut false s).1 = [] then none else some (x, n)
    | _, _ => none
def authOf (u : Url) (s : Bs) : Option Url :=
  let sp := special u.scheme
  let whom := s.takeWhile (notSlash sp)
  let rest := s.dropWhile (notSlash sp)
  match lastAt whom with
  | none => (meetOf H u.scheme whom).map fun x => { u with hasHost := true, host := x.1, port := x.2, path := pathOf false sp rest }
  | some (cred, w) =>
    if w = [] then none
    else (meetOf H u.scheme w).map fun x =>
      { u with user := esc 5 (cutB 58 cred).1, pass := esc 5 (cutB 58 cred).2.1, hasHost := true, host := x.1, port := x.2, path := pathOf false sp rest }
def sLocal : Bs := [108, 111, 99, 97, 108, 104, 111, 115, 116]
def farOf (u : Url) (s : Bs) : Option Url :=
  let whom := s.takeWhile (notSlash true)
  let rest := s.dropWhile (notSlash true)
  if drive whom then some { u with path := pathOf true true s }
  else if whom = [] then some { u with path := pathOf true true rest }
  else (H whom true).map fun h => { u with host := (if h = sLocal then [] else h), path := pathOf true true rest }
def fileAt (u : Url) (s : Bs) : Option Url :=
  match s with
  | a :: b :: r =>
    if isSlash true a && isSlash true b then farOf H u r
    else if isSlash true a then some { u with path := walk true true [] (b :: r) }
    else some { u with path := walk true true [] (a :: b :: r) }
  | [a] => if isSlash true a then some { u with path := walk true true [] [] } else some { u with path := walk true true [] [a] }
  | [] => some { u with path := walk true true [] [] }
def fileOf (u : Url) (s : Bs) : Option Url := fileAt H { u with scheme := sFile, hasHost := true } s
/-- A path that is no path; more: something follows it. -/
def opaqueOf (s : Bs) (more : Bool) : Bs :=
  if more && s.getLast? == some 32 then esc 0 s.dropLast ++ [37, 50, 48] else esc 0 s
def bodyOf (u : Url) (s : Bs) (more : Bool) : Option Url :=
  if u.scheme = sFile then fileOf H u s
  else if special u.scheme then authOf H u (s.dropWhile (isSlash true))
  else match s with
    | a :: b :: r =>
      if a = 47 ∧ b = 47 then authOf H u r
      else if a = 47 then some { u with path := walk false false [] (b :: r) }
      else some { u with opq := true, text := opaqueOf (a :: b :: r) more }
    | [a] => if a = 47 then some { u with path := walk false false [] [] } else some { u with opq := true, text := opaqueOf [a] more }
    | [] => some { u with opq := true, text := opaqueOf [] more }
/-- A cleaned text, parsed without a base. -/
def parseC (s : Bs) : Option Url :=
  let f := cutB 35 s
  let q := cutB 63 f.1
  match schemeOf q.1 with
  | none => none
  | some (sch, rest) =>
    (bodyOf H { scheme := sch, port := -1, hasQuery := q.2.2, hasFrag := f.2.2 } rest (q.2.2 || f.2.2)).map fun u =>
      { u with query := esc (if special u.scheme then 3 else 2) q.2.1, frag := esc 1 f.2.1 }

/-! ### the machine -/
structure M where
  at_ : Int := 0
  state : Int := 0
  buf : Bs := []
  u : Url := {}
  sign : Bool := false
  ins : Bool := false
  pw : Bool := false
  more : Int := 0
deriving DecidableEq
def chr (s : Bs) (i : Int) : UInt8 := if (s.length : Int) ≤ i then 0 else s.getD i.toNat 0
def isEnd (s : Bs) (m : M) : Bool := decide ((s.length : Int) ≤ m.at_)
def mSlash (s : Bs) (m : M) : Bool := !isEnd s m && (chr s m.at_ == 47 || special m.u.scheme && chr s m.at_ == 92)
def mStop (s : Bs) (m : M) : Bool := isEnd s m || chr s m.at_ == 63 || chr s m.at_ == 35
def M.to (m : M) (st : Int) (back : Bool) : M := if back then { m with state := st, at_ := m.at_ - 1 } else { m with state := st }
def M.tail (s : Bs) (m : M) : M :=
  if isEnd s m then m
  else if chr s m.at_ = 63 then { m with u := { m.u with hasQuery := true, query := [] }, state := 17 }
  else if chr s m.at_ = 35 then { m with u := { m.u with hasFrag := true, frag := [] }, state := 18 }
  else m
def M.begin (m : M) : M := { m with state := 8, buf := [], more := 0 }
def M.readScheme (s : Bs) (m : M) : M :=
  let c := chr s m.at_
  if !isEnd s m && schemeCh c then { m with buf := m.buf ++ lower [c] }
  else if isEnd s m || c != 58 then { m with buf := [], at_ := -1, state := 2 }
  else
    let m := { m with u := { m.u with scheme := m.buf }, buf := [] }
    if m.u.scheme = sFile then { m with state := 11 }
    else if special m.u.scheme then { m with state := 7 }
    else if decide (m.at_ + 1 < (s.length : Int)) && chr s (m.at_ + 1) == 47 then { m with at_ := m.at_ + 1, state := 4 }
    else { m with u := { m.u with opq := true }, state := 16 }
/-- One byte more of user and password. -/
def credC (x : Bs × Bs × Bool) (c : UInt8) : Bs × Bs × Bool :=
  if c = 58 ∧ x.2.2 = false then (x.1, x.2.1, true)
  else if x.2.2 then (x.1, x.2.1 ++ escC 5 c, true) else (x.1 ++ escC 5 c, x.2.1, false)
def M.readAuthority (s : Bs) (m : M) : M :=
  let c := chr s m.at_
  if !mStop s m && c == 64 then
    let b := if m.sign then [37, 52, 48] ++ m.buf else m.buf
    let x := b.foldl credC (m.u.user, m.u.pass, m.pw)
    { m with u := { m.u with user := x.1, pass := x.2.1 }, pw := x.2.2, sign := true, buf := [] }
  else if mStop s m || mSlash s m then
    if m.sign && m.buf.isEmpty then { m with state := 19 }
    else { m with at_ := m.at_ - m.buf.length - 1, buf := [], state := 9 }
  else { m with buf := m.buf ++ [c] }
/-- The host that was gathered; false: it is none. -/
def M.meet (m : M) : M × Bool :=
  match H m.buf (special m.u.scheme) with
  | some h => ({ m with u := { m.u with hasHost := true, host := h }, buf := [] }, true)
  | none => ({ m with u := { m.u with hasHost := true, host := [] }, buf := [] }, false)
def M.readHost (s : Bs) (m : M) : M :=
  let c := chr s m.at_
  if !mStop s m && c == 58 && !m.ins then
    if m.buf.isEmpty then { m with state := 19 }
    else if (m.meet H).2 then { (m.meet H).1 with state := 10 } else { (m.meet H).1 with state := 19 }
  else if mStop s m || mSlash s m then
    if special m.u.scheme && m.buf.isEmpty then { m with state := 19 }
    else if (m.meet H).2 then { (m.meet H).1 with state := 14, at_ := m.at_ - 1 } else { (m.meet H).1 with state := 19 }
  else { m with ins := inNext c m.ins, buf := m.buf ++ [c] }
/-- A port's number; none: it is too great. -/
def portM : Int → Bs → Option Int
  | n, [] => some n
  | n, c :: r => if 65535 < n * 10 + (bI c - 48) then none else portM (n * 10 + (bI c - 48)) r
def M.readPort (s : Bs) (m : M) : M :=
  let c := chr s m.at_
  if !mStop s m && digit (bI c) then { m with buf := m.buf ++ [c] }
  else if !mStop s m && !mSlash s m then { m with state := 19 }
  else if m.buf.isEmpty then { m with state := 14, at_ := m.at_ - 1 }
  else match portM 0 m.buf with
    | none => { m with state := 19 }
    | some n => { m with u := { m.u with port := if n = defPort m.u.scheme then -1 else n }, buf := [], state := 14, at_ := m.at_ - 1 }
def M.readFile (s : Bs) (m : M) : M :=
  let m := { m with u := { m.u with scheme := sFile, hasHost := true, host := [] } }
  if mSlash s m then { m with state := 12 } else { m with state := 15, at_ := m.at_ - 1 }
def M.readFileSlash (s : Bs) (m : M) : M := if mSlash s m then { m with state := 13 } else { m with state := 15, at_ := m.at_ - 1 }
def M.readFileHost (s : Bs) (m : M) : M :=
  let c := chr s m.at_
  if !mStop s m && !mSlash s m then { m with buf := m.buf ++ [c] }
  else if drive m.buf then { m with state := 15, at_ := m.at_ - 1 }
  else if m.buf.isEmpty then { m with state := 14, at_ := m.at_ - 1 }
  else if (m.meet H).2 then
    let m := (m.meet H).1
    { m with u := { m.u with host := if m.u.host = sLocal then [] else m.u.host }, state := 14, at_ := m.at_ - 1 }
  else { (m.meet H).1 with state := 19 }
def M.readPathStart (s : Bs) (m : M) : M :=
  if special m.u.scheme then m.to 15 (!mSlash s m)
  else if mStop s m then m.tail s
  else m.to 15 (!mSlash s m)
def M.readPath (s : Bs) (m : M) : M :=
  let c := chr s m.at_
  if !mStop s m && !mSlash s m then { m with buf := m.buf ++ [c] }
  else M.tail s { m with u := { m.u with path := stepSeg (m.u.scheme == sFile) m.u.path m.buf (!mSlash s m) }, buf := [] }
def M.readOpaque (s : Bs) (m : M) : M :=
  let c := chr s m.at_
  if mStop s m then m.tail s
  else if c = 32 ∧ m.at_ + 1 < (s.length : Int) ∧ (chr s (m.at_ + 1) = 63 ∨ chr s (m.at_ + 1) = 35) then { m with u := { m.u with text := m.u.text ++ [37, 50, 48] } }
  else { m with u := { m.u with text := m.u.text ++ esc 0 [c] } }
def M.readQuery (s : Bs) (m : M) : M :=
  let c := chr s m.at_
  if !isEnd s m && c != 35 then { m with buf := m.buf ++ [c] }
  else M.tail s { m with u := { m.u with query := esc (if special m.u.scheme then 3 else 2) m.buf }, buf := [] }
/-- One byte, or the end, in a state; none: a state that no text without a base comes to. -/
def M.step (s : Bs) (m : M) : Option M :=
  let c := chr s m.at_
  if m.state = 0 then some (if letter (bI c) && !isEnd s m then { m with buf := lower [c], state := 1 } else { m with state := 2, at_ := m.at_ - 1 })
  else if m.state = 1 then some (m.readScheme s)
  else if m.state = 2 then some { m with state := 19 }
  else if m.state = 4 then some (if c == 47 && !isEnd s m then m.begin else { m with state := 15, at_ := m.at_ - 1 })
  else if m.state = 7 then some (if !mSlash s m || !special m.u.scheme then { m.begin with at_ := m.at_ - 1 } else m)
  else if m.state = 8 then some (m.readAuthority s)
  else if m.state = 9 then some (m.readHost H s)
  else if m.state = 10 then some (m.readPort s)
  else if m.state = 11 then some (m.readFile s)
  else if m.state = 12 then some (m.readFileSlash s)
  else if m.state = 13 then some (m.readFileHost H s)
  else if m.state = 14 then some (m.readPathStart s)
  else if m.state = 15 then some (m.readPath s)
  else if m.state = 16 then some (m.readOpaque s)
  else if m.state = 17 then some (m.readQuery s)
  else if m.state = 18 then some (if !isEnd s m then { m with buf := m.buf ++ [c] } else { m with u := { m.u with frag := esc 1 m.buf }, buf := [] })
  else none
/-- So many rounds of the machine. -/
def M.run (s : Bs) : Nat → M → Option M
  | 0, _ => none
  | k + 1, m =>
    if m.state = 19 then some m
    else if 0 ≤ m.at_ then
      match m.step H s with
      | none => none
      | some m' => if isEnd s m && isEnd s m' then some m' else M.run s k { m' with at_ := m'.at_ + 1 }
    else M.run s k { m with at_ := m.at_ + 1 }
def M.res (m : M) : Option Url := if m.state = 19 then none else some m.u
/-- The machine comes to an end, with this answer. -/
def Fin (s : Bs) (m : M) (o : Option Url) : Prop := ∃ k m', m.run H s k = some m' ∧ m'.res = o

end
end Go.Proofs.YtogpmgjdmoglkaaGreatDoor.Pu
/- Plain words: layers 11, 17 and 18 (url's text, data, build): what a data URL says; of a plain type and any bytes it is what was built. -/
set_option linter.unusedVariables false
set_option linter.unusedSimpArgs false
namespace Go.Proofs.YtogpmgjdmoglkaaGreatDoor.Pu

/-! ### a URL's text -/
def urlAuth (u : Url) : Bs :=
  if u.hasHost then [47, 47] ++ u.user ++ (if u.pass = [] then [] else 58 :: u.pass) ++ (if u.user = [] ∧ u.pass = [] then [] else [64]) ++ u.host ++ (if u.port = -1 then [] else 58 :: Lib.itoa u.port) else []
def segText (l : List Bs) : Bs := l.flatMap fun s => 47 :: s
def urlPath (u : Url) : Bs := if u.opq then u.text else segText u.path
def urlDot (u : Url) : Bs := if u.hasHost = false ∧ u.opq = false ∧ 1 < u.path.length ∧ u.path.head? = some [] then [47, 46] else []
def urlBare (u : Url) : Bs := u.scheme ++ 58 :: (urlAuth u ++ (urlDot u ++ (urlPath u ++ (if u.hasQuery then 63 :: u.query else []))))

/-! ### data -/
def sData : Bs := [100, 97, 116, 97]
def sText : Bs := [116, 101, 120, 116, 47, 112, 108, 97, 105, 110]
def word64 : Bs := [98, 97, 115, 101, 54, 52]
def blank5 (c : UInt8) : Bool := c == 32 || c == 9 || c == 10 || c == 12 || c == 13
def isSp (c : UInt8) : Bool := c == 32
/-- A head without its base64; whether it had one. -/
def based (h : Bs) : Bs × Bool :=
  if h.length < 6 then (h, false)
  else if lower (h.drop (h.length - 6)) = word64 then
    (if (trimR isSp (h.take (h.length - 6))).getLast? = some 59 then ((trimR isSp (h.take (h.length - 6))).dropLast, true) else (h, false))
  else (h, false)
def mimeOr (h : Bs) : Mime := (mparse (if h.head? = some 59 then sText ++ h else h)).getD fallback
/-- What is said behind the scheme; none: it is in no form. -/
def dataOf (s : Bs) : Option (Mime × Bs) :=
  if (cutB 44 s).2.2 = false then none
  else if (based (trimB blank5 (cutB 44 s).1)).2 then (decB (unesc (cutB 44 s).2.1)).map fun x => (mimeOr (based (trimB blank5 (cutB 44 s).1)).1, x)
  else some (mimeOr (based (trimB blank5 (cutB 44 s).1)).1, unesc (cutB 44 s).2.1)
def process (u : Url) : Option (Mime × Bs) := dataOf ((urlBare u).drop 5)

/-! ### build -/
def openCh (c : UInt8) : Bool := letter (bI c) || digit (bI c) || c == 45 || c == 46 || c == 95 || c == 126
def esc2C (c : UInt8) : Bs := if openCh c then [c] else pct c
def escaped (b : Bs) : Bs := b.flatMap esc2C
def sB64 : Bs := [59, 98, 97, 115, 101, 54, 52, 44]
def dataTail (m : Mime) (b : Bs) (letters : Bool) : Bs := mprint m ++ (if letters then sB64 ++ enc64 b else 44 :: escaped b)
def dataText (m : Mime) (b : Bs) (letters : Bool) : Bs := sData ++ 58 :: dataTail m b letters
def plainV (c : UInt8) : Bool := decide (32 ≤ c.toNat) && decide (c.toNat ≤ 126) && !(c == 35) && !(c == 44) && !(c == 63)
def plainP (p : Bs × Bs) : Bool := !(p.1 == word64) && !(p.1.contains 35) && p.2.all plainV
def plainM (m : Mime) : Bool := mright m && !((m.type ++ m.sub).contains 35) && m.params.all plainP

/-! ### laws -/
theorem unesc_cons (c : UInt8) (t : Bs) (h : c ≠ 37) : unesc (c :: t) = c :: unesc t := by
  match t with
  | [] => rfl
  | [a] => rfl
  | a :: b :: r => rw [unesc, if_neg h]
set_option maxRecDepth 100000 in
theorem twoHex_pct : ∀ c : UInt8, twoHex (hexU (c.toNat / 16)) (hexU (c.toNat % 16)) = some c := by
  intro c
  have : ∀ n : _root_.Fin 256, twoHex (hexU ((⟨⟨n⟩⟩ : UInt8).toNat / 16)) (hexU ((⟨⟨n⟩⟩ : UInt8).toNat % 16)) = some ⟨⟨n⟩⟩ := by decide
  exact this c.toFin
theorem unesc_pct (c : UInt8) (t : Bs) : unesc (pct c ++ t) = c :: unesc t := by
  show unesc (37 :: hexU (c.toNat / 16) :: hexU (c.toNat % 16) :: t) = _
  rw [unesc, if_pos rfl, twoHex_pct]
theorem open_ne (c : UInt8) (h : openCh c = true) : c ≠ 37 := by
  rintro rfl
  revert h
  decide
theorem unesc_escaped : ∀ b : Bs, unesc (escaped b) = b
  | [] => rfl
  | c :: b => by
    have ih := unesc_escaped b
    show unesc (esc2C c ++ escaped b) = _
    unfold esc2C
    split
    · rename_i h
      show unesc (c :: escaped b) = _
      rw [unesc_cons c _ (open_ne c h), ih]
    · rw [unesc_pct, ih]
theorem unesc_id : ∀ b : Bs, (∀ c ∈ b, c ≠ 37) → unesc b = b
  | [], _ => rfl
  | c :: b, h => by rw [unesc_cons c b (h c (by simp)), unesc_id b fun d hd => h d (by simp [hd])]
theorem let64_ne37 : ∀ n : Nat, n < 64 → let64 n ≠ 37 ∧ let64 n ≠ 44 ∧ let64 n ≠ 35 ∧ let64 n ≠ 63 ∧ 33 ≤ (let64 n).toNat ∧ (let64 n).toNat ≤ 126 := by decide
theorem enc64_all (b : Bs) : ∀ c ∈ enc64 b, c ≠ 37 ∧ c ≠ 44 ∧ c ≠ 35 ∧ c ≠ 63 ∧ 33 ≤ c.toNat ∧ c.toNat ≤ 126 := by
  intro c hc
  simp only [enc64, List.mem_append, List.mem_map] at hc
  rcases hc with ⟨n, hn, rfl⟩ | hc
  · exact let64_ne37 n (encU_lt b n hn)
  · have : b.length % 3 = 0 ∨ b.length % 3 = 1 ∨ b.length % 3 = 2 := by omega
    rcases this with h | h | h <;> simp [pad64, h] at hc <;> subst hc <;> decide
theorem cutB_at (c : UInt8) : ∀ (p r : Bs), (∀ x ∈ p, x ≠ c) → cutB c (p ++ c :: r) = (p, r, true)
  | [], r, _ => by simp [cutB]
  | x :: p, r, h => by
    have ih := cutB_at c p r fun y hy => h y (by simp [hy])
    rw [List.cons_append, cutB, if_neg (h x (by simp)), ih]
theorem cutB_not (c : UInt8) : ∀ (p : Bs), (∀ x ∈ p, x ≠ c) → cutB c p = (p, [], false)
  | [], _ => rfl
  | x :: p, h => by
    have ih := cutB_not c p fun y hy => h y (by simp [hy])
    rw [cutB, if_neg (h x (by simp)), ih]
theorem lower_append (a b : Bs) : lower (a ++ b) = lower a ++ lower b := by simp [lower]
set_option maxRecDepth 100000 in
theorem low_word : ∀ c : UInt8, word64.contains (lowC c) = true → c ≠ 34 ∧ c ≠ 47 ∧ c ≠ 61 := by
  intro c
  have : ∀ n : _root_.Fin 256, word64.contains (lowC ⟨⟨n⟩⟩) = true → (⟨⟨n⟩⟩ : UInt8) ≠ 34 ∧ (⟨⟨n⟩⟩ : UInt8) ≠ 47 ∧ (⟨⟨n⟩⟩ : UInt8) ≠ 61 := by decide
  exact this c.toFin
theorem word_mem {w : Bs} (h : lower w = word64) : ∀ c ∈ w, c ≠ 34 ∧ c ≠ 47 ∧ c ≠ 61 := by
  intro c hc
  apply low_word
  rw [← h]
  simp only [List.contains_eq_mem, decide_eq_true_eq, lower]
  exact List.mem_map_of_mem hc
theorem based_quote (y : Bs) : based (y ++ [34]) = (y ++ [34], false) := by
  unfold based
  split
  · rfl
  · rename_i h
    rw [if_neg]
    intro hw
    have : (34 : UInt8) ∈ (y ++ [34]).drop ((y ++ [34]).length - 6) := by
      rw [List.drop_append_of_le_length (by simp)]
      simp
    exact (word_mem hw 34 this).1 rfl
theorem based_token (y t : Bs) (sep : UInt8) (hs : sep = 47 ∨ sep = 61) (ht : ∀ c ∈ t, tokenCh c = true) : based (y ++ sep :: t) = (y ++ sep :: t, false) := by
  unfold based
  split
  · rfl
  · rename_i h
    split
    · rename_i hw
      by_cases h6 : 6 ≤ t.length
      · have htake : (y ++ sep :: t).take ((y ++ sep :: t).length - 6) = y ++ sep :: t.take (t.length - 6) := by
          rw [List.take_append, show (y ++ sep :: t).length - 6 - y.length = (t.length - 6) + 1 from by simp; omega, List.take_succ_cons, List.take_of_length_le (by simp; omega)]
        have hl : ∀ c, (y ++ sep :: t.take (t.length - 6)).getLast? = some c → isSp c = false ∧ c ≠ 59 := by
          intro c hc
          have e : y ++ sep :: t.take (t.length - 6) = (y ++ [sep]) ++ t.take (t.length - 6) := by simp
          rw [e] at hc
          by_cases he : t.take (t.length - 6) = []
          · rw [he, List.append_nil, List.getLast?_concat] at hc
            injection hc with hc; subst hc
            rcases hs with rfl | rfl <;> exact ⟨rfl, by decide⟩
          · rw [last_app _ he] at hc
            have hm := ht c (List.mem_of_mem_take (getLast_mem hc))
            have h2 := tok_all c hm
            refine ⟨?_, h2.2.1⟩
            have := h2.2.2.2.2.2.2.2.2.1
            have : c ≠ 32 := by rintro rfl; revert this; decide
            simpa [isSp] using this
        rw [htake, trimR_id fun c hc => (hl c hc).1]
        rw [if_neg fun e => (hl 59 e).2 rfl]
      · exfalso
        have : sep ∈ (y ++ sep :: t).drop ((y ++ sep :: t).length - 6) := by
          rw [List.drop_append_of_le_length (by simp; omega)]
          simp
        have h2 := word_mem hw sep this
        rcases hs with rfl | rfl
        · exact h2.2.1 rfl
        · exact h2.2.2 rfl
    · rfl
theorem print_form (m : Mime) (h : mright m = true) : (∃ y t sep, mprint m = y ++ sep :: t ∧ (sep = 47 ∨ sep = 61) ∧ ∀ c ∈ t, tokenCh c = true) ∨ ∃ y, mprint m = y ++ [34] := by
  simp only [mright, small, Bool.and_eq_true] at h
  obtain ⟨_, _, hsub, _⟩ := h
  obtain ⟨hne, hall⟩ := token_ne hsub
  rcases List.eq_nil_or_concat m.params with hp | ⟨l, p, hp⟩
  · exact .inl ⟨m.type, m.sub, 47, by simp [mprint, essence, hp], .inl rfl, hall⟩
  · by_cases ht : isToken p.2 = true
    · exact .inl ⟨essence m ++ l.flatMap pprint ++ 59 :: p.1, p.2, 61, by simp [mprint, hp, pprint, pvalue, ht], .inr rfl, (token_ne ht).2⟩
    · exact .inr ⟨essence m ++ l.flatMap pprint ++ 59 :: p.1 ++ 61 :: 34 :: p.2.flatMap quoteC, by simp [mprint, hp, pprint, pvalue, ht, quote]⟩
theorem based_print (m : Mime) (h : mright m = true) : based (mprint m) = (mprint m, false) := by
  rcases print_form m h with ⟨y, t, sep, e, hs, ht⟩ | ⟨y, e⟩
  · rw [e]; exact based_token y t sep hs ht
  · rw [e]; exact based_quote y
theorem based_word (s : Bs) : based (s ++ [59, 98, 97, 115, 101, 54, 52]) = (s, true) := by
  have e : s ++ [59, 98, 97, 115, 101, 54, 52] = (s ++ [59]) ++ word64 := by simp [word64]
  have hl : ((s ++ [59]) ++ word64).length - 6 = (s ++ [59]).length := by simp [word64]
  unfold based
  rw [e, if_neg (by simp [word64]), hl, List.drop_left, if_pos (by decide), List.take_left, trimR_id (by intro c hc; rw [List.getLast?_concat] at hc; injection hc with hc; subst hc; rfl), List.getLast?_concat, if_pos rfl, List.dropLast_concat]
theorem print_head (m : Mime) (h : mright m = true) : ∃ c t, mprint m = c :: t ∧ tokenCh c = true := by
  simp only [mright, small, Bool.and_eq_true] at h
  obtain ⟨_, ⟨ht, _⟩, _⟩ := h
  obtain ⟨hne, hall⟩ := token_ne ht
  cases hty : m.type with
  | nil => exact absurd hty hne
  | cons c n => exact ⟨c, n ++ 47 :: (m.sub ++ m.params.flatMap pprint), by simp [mprint, essence, hty], hall c (by rw [hty]; simp)⟩
theorem tok_plain {c : UInt8} (h : tokenCh c = true) : blank5 c = false := by
  have := (tok_all c h).2.2.2.2.2.2.2.2.1
  have h1 : c ≠ 32 := by rintro rfl; revert this; decide
  have h2 : c ≠ 9 := by rintro rfl; revert this; decide
  have h3 : c ≠ 10 := by rintro rfl; revert this; decide
  have h4 : c ≠ 12 := by rintro rfl; revert this; decide
  have h5 : c ≠ 13 := by rintro rfl; revert this; decide
  simp [blank5, h1, h2, h3, h4, h5]
theorem print_trim (m : Mime) (h : mright m = true) : trimB blank5 (mprint m) = mprint m := by
  obtain ⟨c, t, e, hc⟩ := print_head m h
  have h1 : trimL blank5 (mprint m) = mprint m := trimL_id fun d hd => by rw [e] at hd; injection hd with hd; subst hd; exact tok_plain hc
  unfold trimB
  rw [h1]
  apply trimR_id
  intro d hd
  rcases print_form m h with ⟨y, t, sep, e, hs, ht⟩ | ⟨y, e⟩
  · have e2 : mprint m = (y ++ [sep]) ++ t := by simp [e]
    rw [e2] at hd
    by_cases hn : t = []
    · rw [hn, List.append_nil, List.getLast?_concat] at hd
      injection hd with hd; subst hd
      rcases hs with rfl | rfl <;> rfl
    · rw [last_app _ hn] at hd
      exact tok_plain (ht d (getLast_mem hd))
  · rw [e, List.getLast?_concat] at hd
    injection hd with hd; subst hd; rfl
theorem word_trim (m : Mime) (h : mright m = true) : trimB blank5 (mprint m ++ [59, 98, 97, 115, 101, 54, 52]) = mprint m ++ [59, 98, 97, 115, 101, 54, 52] := by
  obtain ⟨c, t, e, hc⟩ := print_head m h
  unfold trimB
  rw [trimL_id (s := mprint m ++ _) fun d hd => by rw [e] at hd; injection hd with hd; subst hd; exact tok_plain hc]
  apply trimR_id
  intro d hd
  rw [show mprint m ++ [59, 98, 97, 115, 101, 54, 52] = (mprint m ++ [59, 98, 97, 115, 101, 54]) ++ [52] from by simp, List.getLast?_concat] at hd
  injection hd with hd; subst hd; rfl
/-- A plain type's text, and all bytes of it. -/
theorem plain_all (m : Mime) (h : plainM m = true) : ∀ c ∈ mprint m, c ≠ 44 ∧ c ≠ 35 ∧ c ≠ 63 ∧ 32 ≤ c.toNat ∧ c.toNat ≤ 126 := by
  simp only [plainM, Bool.and_eq_true, Bool.not_eq_true', List.all_eq_true] at h
  obtain ⟨⟨hr, h35⟩, hp⟩ := h
  have tk : ∀ c : UInt8, tokenCh c = true → c ≠ 35 → c ≠ 44 ∧ c ≠ 35 ∧ c ≠ 63 ∧ 32 ≤ c.toNat ∧ c.toNat ≤ 126 := fun c h1 h2 => by
    have := tok_all c h1
    exact ⟨this.2.2.2.2.1, h2, this.2.2.2.2.2.1, by omega, this.2.2.2.2.2.2.2.2.2⟩
  have hpar : ∀ (l acc : List (Bs × Bs)), paramsOk acc l = true → (∀ p ∈ l, plainP p = true) → ∀ c ∈ l.flatMap pprint, c ≠ 44 ∧ c ≠ 35 ∧ c ≠ 63 ∧ 32 ≤ c.toNat ∧ c.toNat ≤ 126 := by
    intro l
    induction l with
    | nil => intro acc _ _ c hc; cases hc
    | cons p l ih =>
      intro acc h1 h2 c hc
      simp only [paramsOk, Bool.and_eq_true, small] at h1
      rw [List.flatMap_cons, List.mem_append] at hc
      rcases hc with hc | hc
      · have hpp := h2 p (by simp)
        simp only [plainP, Bool.and_eq_true, Bool.not_eq_true', List.all_eq_true] at hpp
        simp only [pprint, List.cons_append, List.mem_cons, List.mem_append] at hc
        rcases hc with rfl | hc | rfl | hc
        · decide
        · exact tk c ((token_ne h1.1.1.2.1).2 c hc) (by rintro rfl; exact absurd hpp.1.2 (by simp [hc]))
        · decide
        · have hv : ∀ d ∈ p.2, d ≠ 44 ∧ d ≠ 35 ∧ d ≠ 63 ∧ 32 ≤ d.toNat ∧ d.toNat ≤ 126 := fun d hd => by
            have := hpp.2 d hd
            simp only [plainV, Bool.and_eq_true, decide_eq_true_eq, Bool.not_eq_true', beq_eq_false_iff_ne] at this
            exact ⟨this.1.2, this.1.1.2, this.2, this.1.1.1.1, this.1.1.1.2⟩
          unfold pvalue at hc
          split at hc
          · exact hv c hc
          · simp only [quote, List.cons_append, List.mem_cons, List.mem_append, List.mem_flatMap, List.mem_singleton] at hc
            rcases hc with rfl | ⟨d, hd, hc⟩ | hc
            · decide
            · unfold quoteC at hc
              split at hc
              · simp only [List.mem_cons, List.not_mem_nil, or_false] at hc
                rcases hc with rfl | rfl
                · decide
                · exact hv _ hd
              · simp only [List.mem_singleton] at hc
                subst hc; exact hv _ hd
            · rcases hc with rfl | hc
              · decide
              · cases hc
      · exact ih _ h1.2 (fun q hq => h2 q (by simp [hq])) c hc
  simp only [mright, small, Bool.and_eq_true] at hr
  obtain ⟨hpo, ⟨ht, _⟩, hs, _⟩ := hr
  intro c hc
  simp only [mprint, essence, List.mem_append, List.mem_cons] at hc
  have h35' : ∀ d ∈ m.type ++ m.sub, d ≠ 35 := by rintro d hd rfl; exact absurd h35 (by simp [List.mem_append.1 hd])
  rcases hc with (hc | rfl | hc) | hc
  · exact tk c ((token_ne ht).2 c hc) (h35' c (by simp [hc]))
  · decide
  · exact tk c ((token_ne hs).2 c hc) (h35' c (by simp [hc]))
  · exact hpar m.params [] hpo hp c hc
theorem mimeOr_print (m : Mime) (h : mright m = true) : mimeOr (mprint m) = m := by
  obtain ⟨c, t, e, hc⟩ := print_head m h
  have h1 : (mprint m).head? ≠ some 59 := by
    rw [e]; intro he; injection he with he; exact (tok_all c hc).2.1 he
  unfold mimeOr
  rw [if_neg h1, parse_print m h]
  rfl
/-- What is built of a plain type and any bytes says them. -/
theorem data_plain (m : Mime) (b : Bs) (letters : Bool) (h : plainM m = true) : dataOf (dataTail m b letters) = some (m, b) := by
  have hall := plain_all m h
  have hr : mright m = true := by simp only [plainM, Bool.and_eq_true] at h; exact h.1.1
  cases letters with
  | true =>
    have e : dataTail m b true = (mprint m ++ [59, 98, 97, 115, 101, 54, 52]) ++ 44 :: enc64 b := by simp [dataTail, sB64]
    have hc := cutB_at 44 (mprint m ++ [59, 98, 97, 115, 101, 54, 52]) (enc64 b) (by
      intro x hx
      rw [List.mem_append] at hx
      rcases hx with hx | hx
      · exact (hall x hx).1
      · simp at hx; rcases hx with rfl | rfl | rfl | rfl | rfl | rfl | rfl <;> decide)
    unfold dataOf
    rw [e, hc]
    simp only
    rw [word_trim m hr, based_word, unesc_id _ fun c hc => (enc64_all b c hc).1, dec_enc]
    simp [mimeOr_print m hr]
  | false =>
    have e : dataTail m b false = mprint m ++ 44 :: escaped b := by simp [dataTail]
    have hc := cutB_at 44 (mprint m) (escaped b) fun x hx => (hall x hx).1
    unfold dataOf
    rw [e, hc]
    simp only
    rw [print_trim m hr, based_print m hr, unesc_escaped]
    simp [mimeOr_print m hr]
end Go.Proofs.YtogpmgjdmoglkaaGreatDoor.Pu
/- Plain words: a text, cleaned; a data URL's text, parsed; what is built. -/
set_option linter.unusedVariables false
set_option linter.unusedSimpArgs false
namespace Go.Proofs.YtogpmgjdmoglkaaGreatDoor.Pu

def low32 (c : UInt8) : Bool := decide (c.toNat ≤ 32)
def gone3 (c : UInt8) : Bool := !(c == 9 || c == 10 || c == 13)
def cleanL (s : Bs) : Bs := (trimB low32 (encL (decL s))).filter gone3

theorem trimR_append (p : UInt8 → Bool) (a b : Bs) (h : ∀ c ∈ a, p c = false) : ∃ t, trimR p (a ++ b) = a ++ t ∧ ∃ u, b = t ++ u := by
  unfold trimR
  rw [List.reverse_append]
  by_cases hb : ∀ c ∈ b, p c = true
  · have h1 : (b.reverse ++ a.reverse).dropWhile p = a.reverse := (takeWhile_all (p := p) (l := b.reverse) (fun x hx => hb x (by simpa using hx)) a.reverse (fun x hx => h x (by
      have := List.mem_of_mem_head? hx
      simpa using this))).2
    rw [h1]
    exact ⟨[], by simp, b, by simp⟩
  · have hne : ∃ c ∈ b, p c = false := by
      have : ¬ ∀ c ∈ b, p c = true := hb
      simpa using this
    have h1 : (b.reverse ++ a.reverse).dropWhile p = b.reverse.dropWhile p ++ a.reverse := by
      rw [List.dropWhile_append]
      have : b.reverse.dropWhile p ≠ [] := by
        intro e
        obtain ⟨c, hc, hp⟩ := hne
        have h2 : c ∈ b.reverse.takeWhile p := by
          have := List.takeWhile_append_dropWhile (p := p) (l := b.reverse)
          rw [e, List.append_nil] at this
          rw [this]; simpa using hc
        have h3 := List.all_eq_true.1 (List.all_takeWhile (p := p) (l := b.reverse)) c h2
        rw [hp] at h3; cases h3
      simp [this]
    rw [h1, List.reverse_append, List.reverse_reverse]
    refine ⟨(b.reverse.dropWhile p).reverse, rfl, (b.reverse.takeWhile p).reverse, ?_⟩
    rw [← List.reverse_append, List.takeWhile_append_dropWhile, List.reverse_reverse]
/-- What begins with bytes that are written plainly does so when it is cleaned. -/
theorem clean_head (p l : Bs) (h : ∀ c ∈ p, 33 ≤ c.toNat ∧ c.toNat ≤ 126) : ∃ t, cleanL (p ++ l) = p ++ t := by
  have hlow : ∀ c ∈ p, low32 c = false := fun c hc => by have := h c hc; simp [low32]; omega
  unfold cleanL trimB
  rw [enc_dec_head p l fun c hc => by have := h c hc; omega]
  cases p with
  | nil => exact ⟨_, rfl⟩
  | cons c p =>
    rw [trimL_id (s := c :: p ++ _) fun d hd => by
      have : c = d := by simpa using hd
      subst this; exact hlow c (by simp)]
    obtain ⟨t, ht, _⟩ := trimR_append low32 (c :: p) (encL (decL l)) hlow
    rw [ht, List.filter_append]
    refine ⟨t.filter gone3, ?_⟩
    congr 1
    rw [List.filter_eq_self]
    intro d hd
    have := h d hd
    have h1 : d ≠ 9 := by rintro rfl; revert this; decide
    have h2 : d ≠ 10 := by rintro rfl; revert this; decide
    have h3 : d ≠ 13 := by rintro rfl; revert this; decide
    simp [gone3, h1, h2, h3]
theorem clean_plain (s : Bs) (h : ∀ c ∈ s, 32 ≤ c.toNat ∧ c.toNat ≤ 126) (hh : ∀ c, s.head? = some c → c ≠ 32) (hl : ∀ c, s.getLast? = some c → c ≠ 32) : cleanL s = s := by
  have key : ∀ c ∈ s, c ≠ 32 → low32 c = false := fun c hc hn => by
    have := h c hc
    have : c.toNat ≠ 32 := fun e => hn (UInt8.toNat_inj.1 e)
    simp [low32]; omega
  unfold cleanL trimB
  rw [enc_dec_low s fun c hc => by have := h c hc; omega, trimL_id fun c hc => key c (List.mem_of_mem_head? hc) (hh c hc), trimR_id fun c hc => key c (getLast_mem hc) (hl c hc), List.filter_eq_self]
  intro d hd
  have := h d hd
  have h1 : d ≠ 9 := by rintro rfl; revert this; decide
  have h2 : d ≠ 10 := by rintro rfl; revert this; decide
  have h3 : d ≠ 13 := by rintro rfl; revert this; decide
  simp [gone3, h1, h2, h3]

/-! ### a data URL's text, parsed -/
theorem scheme_data (r : Bs) : schemeOf (sData ++ 58 :: r) = some (sData, r) := by
  have hc := cutB_at 58 sData r (by decide)
  unfold schemeOf
  rw [hc]
  rw [if_pos (show schemeOk sData true = true by decide)]
  rfl
theorem cutB_pre (c : UInt8) : ∀ (p r : Bs), (∀ x ∈ p, x ≠ c) → cutB c (p ++ r) = (p ++ (cutB c r).1, (cutB c r).2.1, (cutB c r).2.2)
  | [], r, _ => rfl
  | x :: p, r, h => by
    have ih := cutB_pre c p r fun y hy => h y (by simp [hy])
    rw [List.cons_append, cutB, if_neg (h x (by simp)), ih]; rfl
/-- Where a text is "data:" and no slash: the URL. -/
def dataUrl (r : Bs) : Url :=
  { scheme := sData, port := -1, opq := true, text := opaqueOf (cutB 63 (cutB 35 r).1).1 ((cutB 63 (cutB 35 r).1).2.2 || (cutB 35 r).2.2), hasQuery := (cutB 63 (cutB 35 r).1).2.2, hasFrag := (cutB 35 r).2.2,
    query := esc 2 (cutB 63 (cutB 35 r).1).2.1, frag := esc 1 (cutB 35 r).2.1 }
theorem special_data : special sData = false := by decide
theorem body_opaque (H : Bs → Bool → Option Bs) (u : Url) (s : Bs) (more : Bool) (hs : u.scheme = sData) (h : s.head? ≠ some 47) : bodyOf H u s more = some { u with opq := true, text := opaqueOf s more } := by
  unfold bodyOf
  rw [if_neg (by rw [hs]; decide), if_neg (by rw [hs, special_data]; simp)]
  match s, h with
  | [], _ => rfl
  | [a], h =>
    have : a ≠ 47 := fun e => h (by rw [e]; rfl)
    simp [this]
  | a :: b :: r, h =>
    have : a ≠ 47 := fun e => h (by rw [e]; rfl)
    simp [this]
theorem cutB_head (c : UInt8) (s : Bs) (d : UInt8) (h : (cutB c s).1.head? = some d) : s.head? = some d := by
  cases s with
  | nil => simp [cutB] at h
  | cons x r =>
    rw [cutB] at h
    split at h
    · cases h
    · exact h
theorem parse_dataUrl (H : Bs → Bool → Option Bs) (r : Bs) (h : r.head? ≠ some 47) : parseC H (sData ++ 58 :: r) = some (dataUrl r) := by
  have e : sData ++ 58 :: r = [100, 97, 116, 97, 58] ++ r := rfl
  have h1 := cutB_pre 35 [100, 97, 116, 97, 58] r (by decide)
  have h2 := cutB_pre 63 [100, 97, 116, 97, 58] (cutB 35 r).1 (by decide)
  have hh : (cutB 63 (cutB 35 r).1).1.head? ≠ some 47 := fun hh => h (cutB_head 35 r 47 (cutB_head 63 _ 47 hh))
  unfold parseC
  rw [e, h1]
  simp only
  rw [h2]
  simp only
  have hs := scheme_data (cutB 63 (cutB 35 r).1).1
  have e2 : sData ++ 58 :: (cutB 63 (cutB 35 r).1).1 = [100, 97, 116, 97, 58] ++ (cutB 63 (cutB 35 r).1).1 := rfl
  rw [← e2, hs]
  simp only
  rw [body_opaque H _ _ _ rfl hh]
  simp [dataUrl, special_data]
theorem esc0_plain : ∀ (s : Bs), (∀ c ∈ s, 32 ≤ c.toNat ∧ c.toNat ≤ 126) → esc 0 s = s
  | [], _ => rfl
  | c :: s, h => by
    have hc := h c (by simp)
    have ih := esc0_plain s fun d hd => h d (by simp [hd])
    show escC 0 c ++ esc 0 s = _
    rw [ih]
    have : inSet 0 c = false := by simp [inSet, signs]; omega
    simp [escC, this]
theorem dataUrl_plain (r : Bs) (h : ∀ c ∈ r, c ≠ 35 ∧ c ≠ 63 ∧ 32 ≤ c.toNat ∧ c.toNat ≤ 126) : dataUrl r = { scheme := sData, port := -1, opq := true, text := r } := by
  have h1 := cutB_not 35 r fun c hc => (h c hc).1
  have h2 := cutB_not 63 r fun c hc => (h c hc).2.1
  unfold dataUrl
  rw [h1]
  simp only
  rw [h2]
  simp [opaqueOf, esc0_plain r fun c hc => (h c hc).2.2, show esc 2 [] = [] from rfl, show esc 1 [] = [] from rfl]
theorem bare_opaque (t : Bs) : (urlBare { scheme := sData, port := -1, opq := true, text := t }).drop 5 = t := by
  simp [urlBare, urlAuth, urlDot, urlPath, sData]

/-! ### what is built -/
def buildOf (H : Bs → Bool → Option Bs) (m : Mime) (b : Bs) (letters : Bool) : Bs × Int :=
  if mright m = false then ([], 1)
  else if 65536 < (dataText m b letters).length then ([], 3)
  else match parseC H (cleanL (dataText m b letters)) with
    | none => ([], 2)
    | some u => if process u = some (m, b) then (dataText m b letters, 0) else ([], 2)
set_option maxRecDepth 100000 in
theorem esc2_all (b : Bs) : ∀ c ∈ escaped b, c ≠ 35 ∧ c ≠ 63 ∧ 33 ≤ c.toNat ∧ c.toNat ≤ 126 := by
  intro c hc
  simp only [escaped, List.mem_flatMap] at hc
  obtain ⟨d, _, hc⟩ := hc
  unfold esc2C at hc
  split at hc
  · rename_i ho
    simp only [List.mem_singleton] at hc; subst hc
    have key : ∀ n : _root_.Fin 256, openCh ⟨⟨n⟩⟩ = true → (⟨⟨n⟩⟩ : UInt8) ≠ 35 ∧ (⟨⟨n⟩⟩ : UInt8) ≠ 63 ∧ 33 ≤ n.val ∧ n.val ≤ 126 := by decide
    exact key c.toFin ho
  · have key : ∀ n : _root_.Fin 256, ∀ x ∈ pct ⟨⟨n⟩⟩, x ≠ 35 ∧ x ≠ 63 ∧ 33 ≤ x.toNat ∧ x.toNat ≤ 126 := by decide
    exact key d.toFin c hc
theorem tail_all (m : Mime) (b : Bs) (letters : Bool) (h : plainM m = true) : ∀ c ∈ dataTail m b letters, c ≠ 35 ∧ c ≠ 63 ∧ 32 ≤ c.toNat ∧ c.toNat ≤ 126 := by
  have hall := plain_all m h
  intro c hc
  cases letters with
  | true =>
    simp only [dataTail, if_true, List.mem_append] at hc
    rcases hc with hc | hc | hc
    · exact (hall c hc).2
    · simp [sB64] at hc; rcases hc with rfl | rfl | rfl | rfl | rfl | rfl | rfl | rfl <;> decide
    · have := enc64_all b c hc; exact ⟨this.2.2.1, this.2.2.2.1, by omega, this.2.2.2.2.2⟩
  | false =>
    simp only [dataTail, Bool.false_eq_true, if_false, List.mem_append, List.mem_cons] at hc
    rcases hc with hc | rfl | hc
    · exact (hall c hc).2
    · decide
    · have := esc2_all b c hc; exact ⟨this.1, this.2.1, by omega, this.2.2.2⟩
theorem text_clean (m : Mime) (b : Bs) (letters : Bool) (h : plainM m = true) : cleanL (dataText m b letters) = dataText m b letters := by
  have hr : mright m = true := by simp only [plainM, Bool.and_eq_true] at h; exact h.1.1
  apply clean_plain
  · intro c hc
    simp only [dataText, sData, List.mem_append, List.mem_cons, List.not_mem_nil, or_false] at hc
    rcases hc with (rfl | rfl | rfl | rfl) | rfl | hc
    · decide
    · decide
    · decide
    · decide
    · decide
    · exact (tail_all m b letters h c hc).2.2
  · intro c hc
    simp [dataText, sData] at hc
    subst hc; decide
  · intro c hc
    cases letters with
    | true =>
      have e : dataText m b true = (sData ++ 58 :: (mprint m ++ [59, 98, 97, 115, 101, 54, 52])) ++ (44 :: enc64 b) := by simp [dataText, dataTail, sB64]
      rw [e, last_app _ (by simp)] at hc
      have hm := getLast_mem hc
      rcases List.mem_cons.1 hm with rfl | hm
      · decide
      · have := (enc64_all b c hm).2.2.2.2.1
        rintro rfl; revert this; decide
    | false =>
      have e : dataText m b false = (sData ++ 58 :: mprint m) ++ (44 :: escaped b) := by simp [dataText, dataTail]
      rw [e, last_app _ (by simp)] at hc
      have hm := getLast_mem hc
      rcases List.mem_cons.1 hm with rfl | hm
      · decide
      · have := (esc2_all b c hm).2.2.1
        rintro rfl; revert this; decide
theorem tail_head (m : Mime) (b : Bs) (letters : Bool) (hr : mright m = true) : ∃ c t, dataTail m b letters = c :: t ∧ tokenCh c = true ∧ mprint m = c :: (mprint m).tail := by
  obtain ⟨c, t, e, hc⟩ := print_head m hr
  exact ⟨c, _, by rw [dataTail, e]; rfl, hc, by rw [e]; rfl⟩
/-- Cleaned, what is built begins as it is written. -/
theorem text_head (m : Mime) (b : Bs) (letters : Bool) (hr : mright m = true) : ∃ r, cleanL (dataText m b letters) = sData ++ 58 :: r ∧ r.head? ≠ some 47 := by
  obtain ⟨c, t, e, hc, _⟩ := tail_head m b letters hr
  have htok := tok_all c hc
  have e2 : dataText m b letters = [100, 97, 116, 97, 58, c] ++ t := by rw [dataText, e]; rfl
  obtain ⟨r, hr2⟩ := clean_head [100, 97, 116, 97, 58, c] t (by
    intro d hd
    simp only [List.mem_cons, List.not_mem_nil, or_false] at hd
    rcases hd with rfl | rfl | rfl | rfl | rfl | rfl
    · decide
    · decide
    · decide
    · decide
    · decide
    · exact htok.2.2.2.2.2.2.2.2)
  refine ⟨c :: r, by rw [e2, hr2]; rfl, ?_⟩
  intro he
  have : c = 47 := by simpa using he
  exact htok.1 this
/-- Of a plain type and any bytes there is a data URL, which says them. -/
theorem build_plain (H : Bs → Bool → Option Bs) (m : Mime) (b : Bs) (letters : Bool) (h : plainM m = true) (hl : (dataText m b letters).length ≤ 65536) :
    buildOf H m b letters = (dataText m b letters, 0) ∧ ∃ u, parseC H (cleanL (dataText m b letters)) = some u ∧ process u = some (m, b) := by
  have hr : mright m = true := by simp only [plainM, Bool.and_eq_true] at h; exact h.1.1
  obtain ⟨c, t, e, hc, _⟩ := tail_head m b letters hr
  have htok := tok_all c hc
  have hp : parseC H (cleanL (dataText m b letters)) = some (dataUrl (dataTail m b letters)) := by
    rw [text_clean m b letters h]
    apply parse_dataUrl
    rw [e]
    intro he
    have : c = 47 := by simpa using he
    exact htok.1 this
  have hd : process (dataUrl (dataTail m b letters)) = some (m, b) := by
    unfold process
    rw [dataUrl_plain _ (tail_all m b letters h), bare_opaque, data_plain m b letters h]
  refine ⟨?_, _, hp, hd⟩
  unfold buildOf
  rw [hr, if_neg (by simp), if_neg (by omega), hp]
  simp [hd]
end Go.Proofs.YtogpmgjdmoglkaaGreatDoor.Pu
/- Plain words: bytes as escapes and as letters, in a data URL without a type, are what they say. -/
set_option linter.unusedVariables false
set_option linter.unusedSimpArgs false
namespace Go.Proofs.YtogpmgjdmoglkaaGreatDoor.Pu

def hexL (n : Nat) : UInt8 := if n < 10 then UInt8.ofNat (48 + n) else UInt8.ofNat (87 + n)
def pctl (c : UInt8) : Bs := [37, hexL (c.toNat / 16), hexL (c.toNat % 16)]
def escl (b : Bs) : Bs := b.flatMap pctl
theorem twoHex_pctl (c : UInt8) : twoHex (hexL (c.toNat / 16)) (hexL (c.toNat % 16)) = some c := by
  have h : ∀ c : _root_.Fin 256, twoHex (hexL (c.val / 16)) (hexL (c.val % 16)) = some ⟨⟨c⟩⟩ := by decide +kernel
  exact h c.toFin
theorem unesc_pctl (c : UInt8) (t : Bs) : unesc (pctl c ++ t) = c :: unesc t := by
  show unesc (37 :: hexL (c.toNat / 16) :: hexL (c.toNat % 16) :: t) = _
  rw [unesc]
  simp [twoHex_pctl]
theorem unesc_escl : ∀ b : Bs, unesc (escl b) = b
  | [] => rfl
  | c :: b => by
    show unesc (pctl c ++ escl b) = _
    rw [unesc_pctl, unesc_escl b]
theorem pctl_all (c : UInt8) : ∀ d ∈ pctl c, d ≠ 35 ∧ d ≠ 63 ∧ 33 ≤ d.toNat ∧ d.toNat ≤ 126 := by
  have h : ∀ c : _root_.Fin 256, ∀ d ∈ pctl ⟨⟨c⟩⟩, d ≠ 35 ∧ d ≠ 63 ∧ 33 ≤ d.toNat ∧ d.toNat ≤ 126 := by decide +kernel
  exact h c.toFin
theorem escl_all (b : Bs) : ∀ d ∈ escl b, d ≠ 35 ∧ d ≠ 63 ∧ 33 ≤ d.toNat ∧ d.toNat ≤ 126 := by
  intro d hd
  simp only [escl, List.mem_flatMap] at hd
  obtain ⟨c, _, hc⟩ := hd
  exact pctl_all c d hc
theorem escl_len : ∀ b : Bs, (escl b).length = 3 * b.length
  | [] => rfl
  | c :: b => by
    show (pctl c ++ escl b).length = _
    simp [escl_len b, pctl]; omega
theorem escl_take (l : Bs) (k : Nat) (h : k < l.length) : escl (l.take (k + 1)) = escl (l.take k) ++ pctl l[k] := by
  rw [List.take_succ_eq_append_getElem h]; simp only [escl, List.flatMap_append]; simp

/-- The text of bytes, each one escaped. -/
def bodyE (b : Bs) : Bs := 44 :: escl b
/-- The text of bytes, as letters. -/
def bodyL (b : Bs) : Bs := [59, 98, 97, 115, 101, 54, 52, 44] ++ enc64 b
theorem bodyE_all (b : Bs) : ∀ d ∈ bodyE b, d ≠ 35 ∧ d ≠ 63 ∧ 33 ≤ d.toNat ∧ d.toNat ≤ 126 := by
  intro d hd
  rcases List.mem_cons.1 hd with rfl | h
  · decide
  · exact escl_all b d h
theorem bodyL_all (b : Bs) : ∀ d ∈ bodyL b, d ≠ 35 ∧ d ≠ 63 ∧ 33 ≤ d.toNat ∧ d.toNat ≤ 126 := by
  intro d hd
  rcases List.mem_append.1 hd with h | h
  · have hp : ∀ d ∈ ([59, 98, 97, 115, 101, 54, 52, 44] : Bs), d ≠ 35 ∧ d ≠ 63 ∧ 33 ≤ d.toNat ∧ d.toNat ≤ 126 := by decide
    exact hp d h
  · have := enc64_all b d h
    exact ⟨this.2.2.1, this.2.2.2.1, this.2.2.2.2⟩
theorem data_clean (r : Bs) (h : ∀ d ∈ r, d ≠ 35 ∧ d ≠ 63 ∧ 33 ≤ d.toNat ∧ d.toNat ≤ 126) : cleanL (sData ++ 58 :: r) = sData ++ 58 :: r := by
  have hp : ∀ d ∈ (sData ++ [58] : Bs), 33 ≤ d.toNat ∧ d.toNat ≤ 126 := by decide
  have ha : ∀ d ∈ sData ++ 58 :: r, 33 ≤ d.toNat ∧ d.toNat ≤ 126 := by
    intro d hd
    rw [show sData ++ 58 :: r = (sData ++ [58]) ++ r by simp] at hd
    rcases List.mem_append.1 hd with h1 | h1
    · exact hp d h1
    · exact (h d h1).2.2
  have hn : ∀ c : UInt8, 33 ≤ c.toNat → c ≠ 32 := by
    intro c hc e; subst e; revert hc; decide
  exact clean_plain _ (fun c hc => ⟨by have := (ha c hc).1; omega, (ha c hc).2⟩) (fun c hc => hn c (ha c (List.mem_of_mem_head? hc)).1) (fun c hc => hn c (ha c (List.mem_of_getLast? hc)).1)
theorem data_url (r : Bs) (h : ∀ d ∈ r, d ≠ 35 ∧ d ≠ 63 ∧ 33 ≤ d.toNat ∧ d.toNat ≤ 126) : dataUrl r = { scheme := sData, port := -1, opq := true, text := r } :=
  dataUrl_plain r fun c hc => ⟨(h c hc).1, (h c hc).2.1, by have := (h c hc).2.2.1; omega, (h c hc).2.2.2⟩
theorem mimeOr_nil : mimeOr [] = fallback := by decide
theorem dataOf_E (b : Bs) : dataOf (bodyE b) = some (fallback, b) := by
  unfold dataOf bodyE
  rw [show cutB 44 (44 :: escl b) = ([], escl b, true) from by simp [cutB]]
  have h1 : based (trimB blank5 []) = ([], false) := by decide
  simp only [h1, unesc_escl, mimeOr_nil]
  simp
theorem dataOf_L (b : Bs) : dataOf (bodyL b) = some (fallback, b) := by
  unfold dataOf bodyL
  have hc : cutB 44 (([59, 98, 97, 115, 101, 54, 52, 44] : Bs) ++ enc64 b) = ([59, 98, 97, 115, 101, 54, 52], enc64 b, true) :=
    cutB_at 44 [59, 98, 97, 115, 101, 54, 52] (enc64 b) (by decide)
  rw [hc]
  have h1 : based (trimB blank5 [59, 98, 97, 115, 101, 54, 52]) = ([], true) := by decide
  simp only [h1, mimeOr_nil]
  rw [unesc_id (enc64 b) fun c hc => (enc64_all b c hc).1, dec_enc]
  simp
def plainU (r : Bs) : Url := { scheme := sData, port := -1, opq := true, text := r }
theorem process_plain (r : Bs) : process (plainU r) = dataOf r := by
  unfold process plainU
  rw [bare_opaque]
end Go.Proofs.YtogpmgjdmoglkaaGreatDoor.Pu
