/- The program's values as plain Lean values, and their rows. No condition. -/
import Derived.Test.YtjpfgafdjlkblaaGreatSimX
namespace Go.Sim
open Go

structure Class where
  name : Str
  parent : Int
  deriving Inhabited, DecidableEq
structure Fault where
  cls : Int
  code : Int
  cause : Int
  ctx : Int
  hide : Bool
  deriving Inhabited, DecidableEq
structure Exi where
  kind : Int
  a : Int
  b : Int
  deriving Inhabited, DecidableEq
structure Sta where
  has : Bool
  cls : Int
  code : Int
  deriving Inhabited, DecidableEq
structure Line where
  depth : Int
  kind : Int
  a : Int
  b : Int
  deriving Inhabited, DecidableEq
structure Res where
  log : List Int
  ed : Int
  val : Int
  heap : List Fault
  deriving Inhabited, DecidableEq
def rClass (c : Class) : List AV := [S c.name, I c.parent]
def rFault (f : Fault) : List AV := [I f.cls, I f.code, I f.cause, I f.ctx, B f.hide]
def rExit (x : Exi) : List AV := [I x.kind, I x.a, I x.b]
def rStart (x : Sta) : List AV := [B x.has, I x.cls, I x.code]
def rLine (x : Line) : List AV := [I x.depth, I x.kind, I x.a, I x.b]
theorem rClass_len (x : Class) : (rClass x).length = 2 := rfl
theorem rFault_len (x : Fault) : (rFault x).length = 5 := rfl
theorem rExit_len (x : Exi) : (rExit x).length = 3 := rfl
theorem rLine_len (x : Line) : (rLine x).length = 4 := rfl
end Go.Sim
