/-
  The plain functions on lists of bytes that the Go functions of this claim compute: names, quoted texts, numbers, tokens, blocks, and the filling of a value. No program and no memory is in this text. No conditions.
-/
namespace Go.Proofs.YtdjifjnophcnlaaDoor.Sp

abbrev By := List UInt8

def dig (c : UInt8) : Bool := 48 ≤ c && c ≤ 57
def sta (c : UInt8) : Bool := 128 ≤ c || c == 95 || (97 ≤ c && c ≤ 122) || (65 ≤ c && c ≤ 90)
def sgn (c : UInt8) : Bool := sta c || dig c || c == 45
def blank (c : UInt8) : Bool := c == 32 || c == 9 || c == 10 || c == 12 || c == 13

/-- An escape begins the text. -/
def esc : By → Bool
  | a :: b :: _ => a == 92 && b != 10
  | _ => false

/-- A name begins the text. -/
def beg : By → Bool
  | [] => false
  | [a] => sta a
  | a :: b :: r => if a == 45 then b == 45 || sta b || esc (b :: r) else sta a || esc (a :: b :: r)

/-- What signs of names and escapes say, and how many bytes they are. -/
def nam : By → By × Nat
  | [] => ([], 0)
  | [a] => if sgn a then ([a], 1) else ([], 0)
  | a :: b :: r =>
    if a == 92 && b != 10 then (b :: (nam r).1, (nam r).2 + 2)
    else if sgn a then (a :: (nam (b :: r)).1, (nam (b :: r)).2 + 1) else ([], 0)

/-- Behind an opening quote: does it close, what it says, and how many bytes. -/
def txt (q : UInt8) : By → Bool × By × Nat
  | [] => (false, [], 0)
  | [a] => if a == q then (true, [], 1) else if a == 10 then (false, [], 0) else (false, [a], 1)
  | a :: b :: r =>
    if a == q then (true, [], 1) else if a == 10 then (false, [], 0)
    else if a == 92 then ((txt q r).1, b :: (txt q r).2.1, (txt q r).2.2 + 2)
    else ((txt q (b :: r)).1, a :: (txt q (b :: r)).2.1, (txt q (b :: r)).2.2 + 1)

/-- Bytes of a remark behind its opening. -/
def note : By → Nat
  | [] => 0
  | [_] => 1
  | a :: b :: r => if a == 42 && b == 47 then 2 else note (b :: r) + 1

def digs (l : By) : Nat := (l.takeWhile dig).length
def from_ : By → Nat
  | [] => 0
  | a :: _ => if a == 43 || a == 45 then 1 else 0
def whole (l : By) : Nat := digs (l.drop (from_ l))
def dots : By → Nat
  | [] => 0
  | a :: r => if a == 46 then digs r else 0
def behind (l : By) : Nat := dots (l.drop (from_ l + whole l))
/-- Bytes of a number that begins the text; 0: none. -/
def numLen (l : By) : Nat :=
  if whole l + behind l = 0 then 0 else from_ l + whole l + (if 0 < behind l then 1 + behind l else 0)

def low (l : By) : By := l.map fun c => if 65 ≤ c && c ≤ 90 then c + 32 else c

structure T where
  k : Int
  raw : By
  val : By
  deriving DecidableEq

def one (c : UInt8) : Int :=
  if c == 40 || c == 91 || c == 123 then 10 else if c == 41 || c == 93 || c == 125 then 11 else if c == 92 then 6 else 12

/-- The unit behind a number of n bytes. -/
def numTok (l : By) : T :=
  if (l.drop (numLen l)).head? = some 37 then ⟨7, l.take (numLen l + 1), [37]⟩
  else if beg (l.drop (numLen l)) then ⟨7, l.take (numLen l + (nam (l.drop (numLen l))).2), low (nam (l.drop (numLen l))).1⟩
  else ⟨7, l.take (numLen l), []⟩
def nameTok (l : By) : T :=
  if (l.drop (nam l).2).head? = some 40 then ⟨2, l.take ((nam l).2 + 1), (nam l).1⟩ else ⟨1, l.take (nam l).2, (nam l).1⟩
def textTok (c : UInt8) (r : By) : T :=
  if (txt c r).1 then ⟨5, (c :: r).take (1 + (txt c r).2.2), (txt c r).2.1⟩ else ⟨6, (c :: r).take (1 + (txt c r).2.2), []⟩
def hashed : By → Bool
  | [] => false
  | d :: r => sgn d || esc (d :: r)

/-- The first token of a text. -/
def tk : By → T
  | [] => ⟨6, [], []⟩
  | c :: r =>
    if blank c then ⟨8, (c :: r).takeWhile blank, []⟩
    else if c == 47 && r.head? == some 42 then ⟨9, (c :: r).take (2 + note (r.drop 1)), []⟩
    else if c == 39 || c == 34 then textTok c r
    else if c == 35 && hashed r then ⟨4, (c :: r).take (1 + (nam r).2), (nam r).1⟩
    else if c == 64 && beg r then ⟨3, (c :: r).take (1 + (nam r).2), (nam r).1⟩
    else if 0 < numLen (c :: r) then numTok (c :: r)
    else if beg (c :: r) then nameTok (c :: r)
    else ⟨one c, [c], []⟩

/-- All tokens; the number bounds the rounds. -/
def toksF : Nat → By → List T
  | 0, _ => []
  | _ + 1, [] => []
  | n + 1, c :: r => tk (c :: r) :: toksF n ((c :: r).drop (tk (c :: r)).raw.length)
def toks (l : By) : List T := toksF l.length l

def isVar (t : T) : Bool := t.k == 2 && low t.val == [118, 97, 114]
def silent (t : T) : Bool := t.k == 8 || t.k == 9
def opens (t : T) : Bool := t.k == 10 || t.k == 2
def closer (t : T) : UInt8 := match t.raw.getLast? with
  | some 91 => 93
  | some 123 => 125
  | _ => 41

/-- How many tokens till all that is open is closed. -/
def blk : List UInt8 → List T → Option Nat
  | [], _ => some 0
  | _ :: _, [] => none
  | c :: st, t :: l =>
    if opens t then (blk (closer t :: c :: st) l).map (· + 1)
    else if t.k == 11 && t.raw == [c] then (blk st l).map (· + 1)
    else (blk (c :: st) l).map (· + 1)

/-- Name in a block, and what is behind its comma. -/
def asked (l : List T) : Option (By × Option (List T)) :=
  match l.dropWhile silent with
  | [] => none
  | t :: r => if t.k == 1 then
      match r.dropWhile silent with
      | [] => some (t.val, none)
      | u :: r2 => if u.raw == [44] then some (t.val, some r2) else none
    else none

/-- Text of tokens, one blank for what is silent; 'gap': one is owed. -/
def headG : List T → By → Bool → By
  | [], acc, _ => acc
  | t :: r, acc, gap =>
    if silent t then headG r acc (!acc.isEmpty)
    else headG r ((if gap then acc ++ [32] else acc) ++ t.raw) false
def head (l : List T) : By := headG l [] false

def look (env : List (By × By)) (n : By) : Option By := (env.reverse.find? fun p => p.1 == n).map (·.2)

/-- What stands in place of a block; f fills a value. -/
def putS (f : By → Option By) (env : List (By × By)) (l : List T) : Option By :=
  match asked l with
  | none => none
  | some (n, o) => match look env n with
    | some v => some v
    | none => match o with
      | none => none
      | some r => f (head r)

/-- The tokens that are left, with what is there already; the number bounds the rounds. -/
def goS (f : By → Option By) (env : List (By × By)) : Nat → List T → By → Option By
  | 0, _, _ => none
  | _ + 1, [], acc => if 400 < acc.length then none else some acc
  | n + 1, t :: r, acc =>
    if isVar t then
      match blk [closer t] r with
      | none => none
      | some k => match putS f env (r.take (k - 1)) with
        | none => none
        | some v => if 400 < (acc ++ v).length then none else goS f env n (r.drop k) (acc ++ v)
    else goS f env n r (acc ++ t.raw)

/-- A value filled; the number bounds the depth. -/
def fillS (env : List (By × By)) : Nat → By → Option By
  | 0, _ => none
  | d + 1, s => if 400 < s.length then none else goS (fillS env d) env ((toks s).length + 1) (toks s) []


end Go.Proofs.YtdjifjnophcnlaaDoor.Sp
