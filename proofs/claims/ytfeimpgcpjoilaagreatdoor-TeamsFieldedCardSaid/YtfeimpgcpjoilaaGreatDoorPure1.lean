/- Plain functions: what the functions on drafts compute; no conditions. -/
import Derived.Test.YtfeimpgcpjoilaaGreatDoorPure0
namespace Go.HL
theorem getD_some {α : Type} {l : List α} {k : Nat} {d : α} (h : k < l.length) : l[k]? = some (l.getD k d) := by
  simp [List.getElem?_eq_getElem h, List.getD]
def leS (s p : Str) : Bool := Op.bytesLess s p || s == p
structure Room where
  Teams : List Str
  Rounds : Int
  Way : Int
  Players : List Str
  Clock : Int
  Start : Int
structure Keep where
  Team : Str
  Player : Str
  Round : Int
structure Swap where
  Round : Int
  Of : Str
  Team : Str
structure Pick where
  No : Int
  Team : Str
  Player : Str
  At : Int
  Auto : Bool
structure Turn where
  round : Int
  of : Str
  team : Str
abbrev eRoom (r : Room) : HVal := .agg [eSs r.Teams, .int .i64 r.Rounds, .int .i64 r.Way, eSs r.Players, .int .i64 r.Clock, .int .i64 r.Start]
abbrev eKeep (x : Keep) : HVal := .agg [.str x.Team, .str x.Player, .int .i64 x.Round]
abbrev eSwap (x : Swap) : HVal := .agg [.int .i64 x.Round, .str x.Of, .str x.Team]
abbrev ePick (x : Pick) : HVal := .agg [.int .i64 x.No, .str x.Team, .str x.Player, .int .i64 x.At, .bool x.Auto]
abbrev eTurn (x : Turn) : HVal := .agg [.int .i64 x.round, .str x.of, .str x.team]
abbrev eKeeps (l : List Keep) : HVal := .slice 3 (l.map eKeep)
abbrev eSwaps (l : List Swap) : HVal := .slice 3 (l.map eSwap)
abbrev ePicks (l : List Pick) : HVal := .slice 5 (l.map ePick)
abbrev eTurns (l : List Turn) : HVal := .slice 3 (l.map eTurn)
def swap0 : Swap := ⟨0, [], []⟩
def keep0 : Keep := ⟨[], [], 0⟩

def risingGo (l : List Str) : Nat → List Str → Int
  | _, [] => 0
  | k, s :: r => if !key s then 5 else if decide (0 < k) && leS s (l.getD (k - 1) []) then 7 else risingGo l (k + 1) r
def rising1 (l : List Str) : Int := risingGo l 0 l
def teamsGo (l : List Str) : Nat → List Str → Int
  | _, [] => 0
  | k, s :: r => if !key s then 5 else if (l.take k).contains s then 6 else teamsGo l (k + 1) r
def teamsFault (l : List Str) : Int := if l.length = 0 then 8 else if 20 < l.length then 2 else teamsGo l 0 l
def playersFault (l : List Str) : Int := if 500 < l.length then 2 else rising1 l
def checkRoom (r : Room) : Int :=
  if teamsFault r.Teams != 0 then teamsFault r.Teams
  else if out r.Rounds 1 30 then 1 else if out r.Way 1 3 then 4
  else if playersFault r.Players != 0 then playersFault r.Players
  else if out r.Clock 1000 86400000 || !(moment r.Start) then 1
  else if (r.Players.length : Int) < r.Teams.length * r.Rounds then 12 else 0
def backwards (way round : Int) : Bool :=
  if way = 2 then round.tmod 2 == 0 else if way = 3 then round == 2 || (decide (2 < round) && round.tmod 2 == 1) else false
def owner (round : Int) (of : Str) : List Swap → Str
  | [] => of
  | s :: r => if s.Round = round ∧ s.Of = of then s.Team else owner round of r
end Go.HL
