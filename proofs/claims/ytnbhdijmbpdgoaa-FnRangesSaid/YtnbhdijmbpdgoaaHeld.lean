/-
  Proved: nothing; it brings the tactic for regions that hold loads and calls. Conditions: none.
  By an AI agent; no person has read it.
-/
import Derived.Test.YtnbhdijmbpdgoaaTypes
import Derived.WalkSpells
import Derived.Deep.RegionHeld3
