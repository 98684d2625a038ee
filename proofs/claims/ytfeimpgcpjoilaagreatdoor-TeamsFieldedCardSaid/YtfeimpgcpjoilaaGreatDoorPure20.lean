/- Plain functions: what the functions on assets and places compute; no conditions. -/
import Derived.Test.YtfeimpgcpjoilaaGreatDoorSort1
import Derived.Test.YtfeimpgcpjoilaaGreatDoorPure12
namespace Go.HL
open Op (bytesLess)
structure Asset where
  Player : Str
  Position : Str
  Value : Int
structure Place where
  Position : Str
  Many : Int
abbrev eAsset (x : Asset) : HVal := .agg [.str x.Player, .str x.Position, .int .i64 x.Value]
abbrev ePlace (x : Place) : HVal := .agg [.str x.Position, .int .i64 x.Many]
abbrev eAssets (l : List Asset) : HVal := .slice 3 (l.map eAsset)
abbrev ePlaces (l : List Place) : HVal := .slice 2 (l.map ePlace)
def asset0 : Asset := ⟨[], [], 0⟩
def place0 : Place := ⟨[], 0⟩
def assetFault (x : Asset) : Int := if !(key x.Player) || !(key x.Position) then 5 else if out x.Value (-1000000) 1000000 then 1 else 0
def assetsGo (l : List Asset) : Nat → List Asset → Int
  | _, [] => 0
  | k, x :: t => if assetFault x != 0 then assetFault x else if decide (0 < k) && leS x.Player (l.getD (k - 1) asset0).Player then 7 else assetsGo l (k + 1) t
def checkAssets (l : List Asset) : Int := if 300 < l.length then 2 else assetsGo l 0 l
def placesGo (l : List Place) : Nat → List Place → Int
  | _, [] => 0
  | k, x :: t => if !(key x.Position) then 5 else if out x.Many 0 12 then 1 else if decide (0 < k) && leS x.Position (l.getD (k - 1) place0).Position then 7 else placesGo l (k + 1) t
def checkPlaces (l : List Place) : Int := if 10 < l.length then 2 else placesGo l 0 l
def byValue (a b : Asset) : Int := orI [cmpI b.Value a.Value, cmpS a.Player b.Player]
def byVal (a b : Asset) : Int := cmpI b.Value a.Value
def byPlayer (a b : Asset) : Int := cmpS a.Player b.Player
def atPos (l : List Asset) (pos : Str) : List Asset := l.filter (fun x => x.Position == pos)
def ofP (l : List Asset) (pos : Str) : List Asset := isort byValue (atPos l pos)
def ofR (l : List Asset) (pos : Str) : List Asset := isort byVal (atPos l pos)
def chosen (o : List Asset) (many : Int) : List Asset := (o.take (min many o.length).toNat).filter (fun y => decide (0 < y.Value))
def fieldedL (of : Str → List Asset) (p : List Place) : List Asset := p.flatMap fun x => chosen (of x.Position) x.Many
def sumV (l : List Asset) : Int := (l.map (·.Value)).sum
def namesV (l : List Asset) : List Str := sortS (l.map (·.Player))
/-- What is known of assets that are right. -/
structure OkA (l : List Asset) : Prop where
  val : ∀ x ∈ l, -1000000 ≤ x.Value ∧ x.Value ≤ 1000000
theorem atPos_snoc {l : List Asset} {k : Nat} {x : Asset} {pos : Str} (h : l[k]? = some x) : atPos (l.take (k + 1)) pos = atPos (l.take k) pos ++ if x.Position == pos then [x] else [] := by
  rw [take_snoc' h]; unfold atPos; rw [List.filter_append]
  by_cases hx : x.Position == pos <;> simp [hx]
theorem atPos_le (l : List Asset) (pos : Str) : (atPos l pos).length ≤ l.length := List.length_filter_le _ _
theorem ofP_len (l : List Asset) (pos : Str) : (ofP l pos).length ≤ l.length := by unfold ofP; rw [isort_len]; exact atPos_le l pos
theorem ofR_len (l : List Asset) (pos : Str) : (ofR l pos).length ≤ l.length := by unfold ofR; rw [isort_len]; exact atPos_le l pos
end Go.HL
