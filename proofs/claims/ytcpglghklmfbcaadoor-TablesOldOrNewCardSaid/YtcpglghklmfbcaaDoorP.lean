/- Layer 10 in plain Lean: what its functions compute. No program in sight. -/
namespace Go.Proofs.YtcpglghklmfbcaaDoor.T
set_option linter.unusedVariables false
set_option linter.unusedSimpArgs false

/-- A sector. -/
structure Sec where
  seq : Int
  data : Int
  bad : Bool
  deriving DecidableEq
def Sec.z : Sec := ⟨0, 0, false⟩
def Sec.b : Sec := ⟨0, 0, true⟩
/-- A patch. -/
structure Pat where
  slot : Int
  part : Int
  seq : Int
  data : Int
  deriving DecidableEq
abbrev Cop := List (List Sec)

def within (n lo hi : Int) : Bool := decide (lo ≤ n ∧ n ≤ hi)
def newerB (a b : Int) : Bool := decide (1 ≤ (a - b) % 64 ∧ (a - b) % 64 ≤ 31)
def okB (n v : Int) : Bool := v == n || newerB n v
/-- The slot with a number. -/
def sl (c : Cop) (s : Nat) : List Sec := c.getD s []
/-- A slot's first Seq. -/
def hd (l : List Sec) : Int := (l.headD Sec.z).seq
def whole (l : List Sec) : Bool := l.all fun x => !x.bad && x.seq == hd l
def tab (l : List Sec) : List Int := l.map (·.data)
def parts (c : Cop) : Nat := (c.headD []).length
def secOk (x : Sec) : Bool := within x.seq 0 63 && within x.data 0 99 && (!x.bad || (x.seq == 0 && x.data == 0))
def okC (c : Cop) : Bool := within c.length 2 4 && within (parts c) 1 4 && c.all fun l => l.length == parts c && l.all secOk
def checkE (c : Cop) : Int := if okC c then 0 else 100
def far (c : Cop) : Bool := c.any (fun l => decide (20 < l.length)) || decide (20 < c.length)

/-- The numbers of the whole slots below n. -/
def wUpto (c : Cop) (n : Nat) : List Nat := (List.range n).filter fun s => whole (sl c s)
def wN (c : Cop) : List Nat := wUpto c c.length
def sq (c : Cop) (s : Nat) : Int := hd (sl c s)
def tops (c : Cop) (s : Nat) : Bool := (wN c).all fun k => okB (sq c s) (sq c k)
def newest (c : Cop) : Option Nat := (wN c).find? (tops c)
def clashP (c : Cop) (i k : Nat) : Bool := sq c i == sq c k && !(tab (sl c i) == tab (sl c k))
/-- Two whole slots have the same Seq and different tables. -/
def clash (c : Cop) : Bool := (wN c).any fun i => (wN c).any fun k => clashP c i k
def mixed (c : Cop) : Bool := clash c || (!(wN c).isEmpty && (newest c).isNone)
def checkM (c : Cop) : Int := if okC c then (if mixed c then 101 else 0) else 100
/-- The table, the slot, the error. -/
def recover (c : Cop) : List Int × Int × Int :=
  if checkM c = 0 then (match newest c with | some s => (tab (sl c s), (s : Int), 0) | none => ([], 0, 3)) else ([], 0, checkM c)
def isTable (c : Cop) (t : List Int) : Bool := t.all (fun n => within n 0 99) && t.length == parts c
/-- No sector of these slots has this number. -/
def unused (c : Cop) (slots : List Nat) (n : Int) : Bool := slots.all fun s => (sl c s).all fun x => x.bad || x.seq != n
def start (c : Cop) : Int := match newest c with | some s => (sq c s + 1) % 64 | none => 0
/-- How many numbers are passed over. -/
def skip (c : Cop) (slots : List Nat) : Option Nat := (List.range 64).find? fun m => unused c slots ((start c + m) % 64)
def free (c : Cop) (slots : List Nat) : Int := match skip c slots with | some m => (start c + m) % 64 | none => 0
/-- n is newer than all whole slots but one. -/
def ahead (c : Cop) (n but : Int) : Bool := (wN c).all fun s => (s : Int) == but || newerB n (sq c s)
def victimFrom (c : Cop) (own : Int) : List Nat → Int → Int
  | [], best => best
  | s :: l, best => victimFrom c own l (if (s : Int) ≠ own ∧ (best < 0 ∨ newerB (sq c best.toNat) (sq c s) = true) then s else best)
def ownI (c : Cop) : Int := match newest c with | some s => s | none => 0
def victim (c : Cop) : Int := match (List.range c.length).find? (fun s => !whole (sl c s)) with
  | some s => s
  | none => victimFrom c (ownI c) (List.range c.length) (-1)
def patches (slot number : Int) (t : List Int) : List Pat := t.zipIdx.map fun p => ⟨slot, p.2, number, p.1⟩
def update (c : Cop) (t : List Int) : List Pat × Int :=
  if checkM c = 0 then
    if isTable c t then
      let s := victim c
      let n := free c [s.toNat]
      if ahead c n s then (patches s n t, 0) else ([], 2)
    else ([], 102)
  else ([], checkM c)
def patOk (c : Cop) (p : Pat) : Bool := within p.slot 0 (c.length - 1) && within p.part 0 (parts c - 1) && within p.seq 0 63 && within p.data 0 99
def arePatches (c : Cop) (l : List Pat) : Bool := l.all (patOk c) && decide (l.length ≤ 64)
def setSec (c : Cop) (s p : Nat) (x : Sec) : Cop := c.modify s fun l => l.set p x
def patch (c : Cop) (p : Pat) : Cop := setSec c p.slot.toNat p.part.toNat ⟨p.seq, p.data, false⟩
def patched (c : Cop) (l : List Pat) : Cop := l.foldl patch c
def tear (c : Cop) (p : Pat) : Cop := setSec c p.slot.toNat p.part.toNat Sec.b
def apply (c : Cop) (l : List Pat) (done : Int) (torn : Bool) : Cop × Int :=
  if okC c then
    if arePatches c l then
      if within done 0 l.length && !(torn && done == l.length) then
        let o := patched c (l.take done.toNat)
        (if torn then (match l[done.toNat]? with | some p => tear o p | none => o) else o, 0)
      else ([], 1)
    else ([], 103)
  else ([], 100)
def first (c : Cop) (own i : Nat) : Bool := tab (sl c i) == tab (sl c own) && (wN c).all fun k => tab (sl c k) == tab (sl c own) || newerB (sq c i) (sq c k)
def margin (c : Cop) : Int × Int :=
  if checkM c = 0 then (match newest c with | some s => (((wN c).filter (first c s)).length, 0) | none => (0, 0)) else (0, checkM c)
def renewSlots (c : Cop) (own : Nat) : List Nat := (List.range c.length).filter (· != own) ++ [own]
def renew (c : Cop) : List Pat × Int :=
  if checkM c = 0 then (match newest c with
    | some s =>
      let n := free c (List.range c.length)
      if ahead c n (-1) then ((renewSlots c s).flatMap fun (i : Nat) => patches (i : Int) n (tab (sl c s)), 0) else ([], 2)
    | none => ([], 3)) else ([], checkM c)
end Go.Proofs.YtcpglghklmfbcaaDoor.T
