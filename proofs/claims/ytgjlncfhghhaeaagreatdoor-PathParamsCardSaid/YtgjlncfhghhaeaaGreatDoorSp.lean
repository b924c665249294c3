/- Plain functions on lists of bytes that say what the packages text, addr and path compute. No program in sight. -/
namespace Go.Proofs.YtgjlncfhghhaeaaGreatDoor.Sp
/-! ### text -/
def lowB (c : UInt8) : UInt8 := if 65 ≤ c ∧ c ≤ 90 then c + 32 else c
def low (s : List UInt8) : List UInt8 := s.map lowB
def plB (c : UInt8) : Bool := decide (32 ≤ c) && decide (c ≤ 126)
def plain (s : List UInt8) : Bool := s.all plB
def split (c : UInt8) : List UInt8 → List (List UInt8)
  | [] => [[]]
  | x :: xs => if x = c then [] :: split c xs else match split c xs with
    | [] => [[x]]
    | h :: t => (x :: h) :: t
/-- A letter of atoms: the bits of the table. -/
def atB (c : UInt8) : Bool := decide (c < 128) && ((([0, 2751442170, 3355443198, 2147483647] : List Nat).getD (c.toNat / 32) 0).testBit (c.toNat % 32))
def atom (s : List UInt8) : Bool := !s.isEmpty && s.all atB
def dotAtom (s : List UInt8) : Bool := (split 46 s).all atom
def digB (c : UInt8) : Bool := decide (48 ≤ c) && decide (c ≤ 57)
def numV (s : List UInt8) : Nat := s.foldl (fun n c => 10 * n + (c.toNat - 48)) 0
/-- Number: 'most' digits at the most. (value, error) -/
def number (s : List UInt8) (most : Nat) : Nat × Int := if s.isEmpty ∨ max 1 (min most 15) < s.length ∨ !s.all digB then (0, 5) else (numV s, 0)
/-- Quote: a backslash ahead of each quote and backslash. -/
def quoteB : List UInt8 → List UInt8
  | [] => []
  | c :: r => if c = 34 ∨ c = 92 then 92 :: c :: quoteB r else c :: quoteB r
def quote (s : List UInt8) : List UInt8 × Int := if plain s then (34 :: (quoteB s ++ [34]), 0) else ([], 5)
/-- Quoted, behind the first quote: what has been read, and where; the word, how many bytes, the error. -/
def quotedGo : List UInt8 → List UInt8 → Nat → List UInt8 × Nat × Int
  | [], _, _ => ([], 0, 4)
  | [c], out, k => if c = 34 then (out, k + 1, 0) else if c = 92 then ([], 0, 4) else if plB c then ([], 0, 4) else ([], 0, 5)
  | c :: d :: r, out, k => if c = 34 then (out, k + 1, 0) else if c = 92 then (if plB d then quotedGo r (out ++ [d]) (k + 2) else ([], 0, 5)) else if plB c then quotedGo (d :: r) (out ++ [c]) (k + 1) else ([], 0, 5)
def quoted : List UInt8 → List UInt8 × Nat × Int
  | [] => ([], 0, 5)
  | c :: r => if c = 34 then quotedGo r [] 1 else ([], 0, 5)
/-! ### addr -/
def hostB (c : UInt8) : Bool := (decide (97 ≤ c) && decide (c ≤ 122)) || (decide (65 ≤ c) && decide (c ≤ 90)) || digB c || c == 45
def label (s : List UInt8) : Bool := !s.isEmpty && s.all hostB && s.headD 0 != 45 && s.getLastD 0 != 45
def digits (n : Nat) : List UInt8 := if n < 10 then [UInt8.ofNat (48 + n)] else if n < 100 then [UInt8.ofNat (48 + n / 10), UInt8.ofNat (48 + n % 10)] else [UInt8.ofNat (48 + n / 100), UInt8.ofNat (48 + n / 10 % 10), UInt8.ofNat (48 + n % 10)]
def octet (s : List UInt8) : Bool := let x := number s 3; x.2 == 0 && decide (x.1 < 256) && digits x.1 == s
def domain (s : List UInt8) : Int :=
  if s.headD 0 = 91 then (let t := s.tail; if t.getLastD 0 = 93 ∧ t.dropLast.count 46 = 3 ∧ (split 46 t.dropLast).all octet then 0 else 5)
  else if !(split 46 s).all label then 5
  else if 255 < s.length ∨ !(split 46 s).all (fun p => decide (p.length ≤ 63)) then 3
  else 0
def mayA (l d : List UInt8) : Bool := !l.isEmpty && decide (l.length ≤ 64) && plain l && domain d == 0
end Go.Proofs.YtgjlncfhghhaeaaGreatDoor.Sp
