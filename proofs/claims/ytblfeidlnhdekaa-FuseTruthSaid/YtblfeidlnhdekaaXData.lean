/- The data of the layer as Lean structures, printed by typegen.py. Conditions: none. -/

namespace Bt
structure Point where
  X : Int
  Y : Int
  deriving Inhabited, DecidableEq
structure Cell where
  Index : Int
  Area : Int
  deriving Inhabited, DecidableEq
structure Place where
  Name : ByteArray
  Kind : Int
  Office : Int
  Cap : Int
  Level : List Point
  Start : List Int
  Num : Int
  Den : Int
  Down : Int
  Delay : Int
  Floor : Int
  Rain : List Cell
  deriving Inhabited, DecidableEq
structure Band where
  Lo : List Point
  Hi : List Point
  deriving Inhabited, DecidableEq
structure Link where
  Name : ByteArray
  Kind : Int
  From : Int
  To : Int
  Rate : List Point
  Band : Band
  Positions : Int
  Speed : Int
  Leak : Int
  Crest : Int
  Num : Int
  Den : Int
  Prime : Int
  Break : Int
  BackNum : Int
  BackDen : Int
  Delay : Int
  deriving Inhabited, DecidableEq
structure Town where
  Name : ByteArray
  Place : Int
  Flood : Int
  Lead : Int
  People : Int
  Watch : Int
  Quorum : Int
  deriving Inhabited, DecidableEq
structure Gauge where
  Name : ByteArray
  Kind : Int
  Target : Int
  Err : Int
  Drift : Int
  deriving Inhabited, DecidableEq
structure Road where
  Name : ByteArray
  From : Int
  To : Int
  Hours : Int
  Flow : Int
  By : Int
  Limit : Int
  deriving Inhabited, DecidableEq
structure Shelter where
  Name : ByteArray
  Room : Int
  deriving Inhabited, DecidableEq
structure Basin where
  Name : ByteArray
  Owners : List ByteArray
  Cells : Int
  Places : List Place
  Links : List Link
  Towns : List Town
  Gauges : List Gauge
  Roads : List Road
  Shelters : List Shelter
  Room : List Int
  Err : Int
  deriving Inhabited, DecidableEq
structure Span where
  Lo : Int
  Hi : Int
  deriving Inhabited, DecidableEq
structure Sum where
  At : Int
  To : Int
  Vol : Span
  deriving Inhabited, DecidableEq
structure Known where
  Pos : Span
  Target : Int
  Open : Span
  deriving Inhabited, DecidableEq
structure Hull where
  Hour : Int
  Vol : List Span
  Queue : List Sum
  Links : List Known
  deriving Inhabited, DecidableEq
structure Reading where
  Gauge : Int
  Hour : Int
  Value : Span
  deriving Inhabited, DecidableEq
structure Load where
  At : Int
  To : Int
  Part : List Int
  deriving Inhabited, DecidableEq
structure Gate where
  Pos : Int
  Target : Int
  Stuck : Bool
  Open : Bool
  deriving Inhabited, DecidableEq
structure State where
  Hour : Int
  Own : List (List Int)
  Rem : List Int
  Queue : List Load
  Gates : List Gate
  In : List Int
  Out : List Int
  deriving Inhabited, DecidableEq
structure Look where
  Gauge : Int
  Less : Int
  More : Int
  deriving Inhabited, DecidableEq
end Bt
