/-
  No cell of these rows narrows 'for every input' (looked for: loops, veiled, ifaces, maps, wideKeys, modest, calm, conditions, laid).
  DERIVED. THE GIVEN ROWS OF THIS SEAT. 18 by the template 'for every input the law returns true; each argument reads behind the call as it read before'; 0 by the template 'total and deterministic' (their statements: YtnnhklembdaieaaTotals.lean).
  GIVEN WITH THE SEED: the statements are not yours to turn. If you find one false, say at which input.
  Laid BY PROGRAM, IN A SANDBOX (cutbox-rows.mjs): the forced cells as the released guide's own fill.sh prints them over the translation e5cf8bff368a05a2… (all of the seat's roots in one cut). By AI agents, Wed Nov 11 2026. No macro, syntax, notation, axiom, sorry.
-/
import Derived.Test.YtnnhklembdaieaaChecked
import GoSem.Claim
import GoSem.ClaimJoined
import GoSem.ClaimMapViews
import Derived.JoinedTies
import Derived.KernelRfl
namespace Go.Proofs.Ytnnhklembdaieaa
/- THE CELL 'sum', in the pinned program and in every row, IS THE sha256 OF THE DUMP (.gsa) THAT YtnnhklembdaieaaProg.lean LOADS. Nothing in Lean hashes anything: it is a label: what it is worth is what the hold of that sum in a sandbox is worth. -/
noncomputable def Try.pinned : Pinned := { name := "ytnnhklembdaieaa", sum := "e5cf8bff368a05a232cf1be6258f6fe8379118361e3aa0f8d607a30283a1b8ac", checked := Try.checked }
namespace Rows
def none {H : Type} : Left H := { results := [], args := [] }

/-- 'pigeonloftlaw11.DiskLast': WHATEVER THE INPUT: true; the input reads as it did. -/
def diskLastSpec : ChangeSpec := { name := "diskLast", fn := fun _ => fun
  | [d1, d2] => { results := [.lit (.bool true)], args := [d1, d2] }
  | _ => none }
def diskLastRow : OpenClaim := { program := "ytnnhklembdaieaa", sum := "e5cf8bff368a05a232cf1be6258f6fe8379118361e3aa0f8d607a30283a1b8ac", func := "pigeonloft/pigeonloftlaw11.DiskLast", spec := "diskLast", inPlace := ["sync/atomic.AddInt64", "sync/atomic.LoadInt64"], apart := false }
def DiskLastSaid : Prop := diskLastRow.holds Try.pinned (OpenSpec.ofChange diskLastSpec)

/-- ITS FALSE NEIGHBOUR: 'it returns false'. Refute it at one input. -/
def diskLastWrong : ChangeSpec := { name := "diskLast", fn := fun _ => fun
  | [d1, d2] => { results := [.lit (.bool false)], args := [d1, d2] }
  | _ => none }
def DiskLastWrongFalsely : Prop := diskLastRow.holds Try.pinned (OpenSpec.ofChange diskLastWrong)

/-- 'pigeonloftlaw11.DiskLives': WHATEVER THE INPUT: true; the input reads as it did. -/
def diskLivesSpec : ChangeSpec := { name := "diskLives", fn := fun _ => fun
  | [d1, d2] => { results := [.lit (.bool true)], args := [d1, d2] }
  | _ => none }
def diskLivesRow : OpenClaim := { program := "ytnnhklembdaieaa", sum := "e5cf8bff368a05a232cf1be6258f6fe8379118361e3aa0f8d607a30283a1b8ac", func := "pigeonloft/pigeonloftlaw11.DiskLives", spec := "diskLives", inPlace := ["sync/atomic.AddInt64", "sync/atomic.LoadInt64"], apart := false }
def DiskLivesSaid : Prop := diskLivesRow.holds Try.pinned (OpenSpec.ofChange diskLivesSpec)

/-- ITS FALSE NEIGHBOUR: 'it returns false'. Refute it at one input. -/
def diskLivesWrong : ChangeSpec := { name := "diskLives", fn := fun _ => fun
  | [d1, d2] => { results := [.lit (.bool false)], args := [d1, d2] }
  | _ => none }
def DiskLivesWrongFalsely : Prop := diskLivesRow.holds Try.pinned (OpenSpec.ofChange diskLivesWrong)

/-- 'pigeonloftlaw11.DiskKeeps': WHATEVER THE INPUT: true; the input reads as it did. -/
def diskKeepsSpec : ChangeSpec := { name := "diskKeeps", fn := fun _ => fun
  | [d1, d2, d3] => { results := [.lit (.bool true)], args := [d1, d2, d3] }
  | _ => none }
def diskKeepsRow : OpenClaim := { program := "ytnnhklembdaieaa", sum := "e5cf8bff368a05a232cf1be6258f6fe8379118361e3aa0f8d607a30283a1b8ac", func := "pigeonloft/pigeonloftlaw11.DiskKeeps", spec := "diskKeeps", inPlace := ["sync/atomic.AddInt64", "sync/atomic.LoadInt64"], apart := false }
def DiskKeepsSaid : Prop := diskKeepsRow.holds Try.pinned (OpenSpec.ofChange diskKeepsSpec)

/-- ITS FALSE NEIGHBOUR: 'it returns false'. Refute it at one input. -/
def diskKeepsWrong : ChangeSpec := { name := "diskKeeps", fn := fun _ => fun
  | [d1, d2, d3] => { results := [.lit (.bool false)], args := [d1, d2, d3] }
  | _ => none }
def DiskKeepsWrongFalsely : Prop := diskKeepsRow.holds Try.pinned (OpenSpec.ofChange diskKeepsWrong)

/-- 'pigeonloftlaw01.SumsTell': WHATEVER THE INPUT: true; the input reads as it did. -/
def sumsTellSpec : ChangeSpec := { name := "sumsTell", fn := fun _ => fun
  | [d1, d2] => { results := [.lit (.bool true)], args := [d1, d2] }
  | _ => none }
def sumsTellRow : OpenClaim := { program := "ytnnhklembdaieaa", sum := "e5cf8bff368a05a232cf1be6258f6fe8379118361e3aa0f8d607a30283a1b8ac", func := "pigeonloft/pigeonloftlaw01.SumsTell", spec := "sumsTell", inPlace := ["sync/atomic.LoadUint32", "(*internal/sync.Mutex).Lock", "internal/race.Disable", "sync/atomic.CompareAndSwapInt32", "internal/race.Enable", "internal/race.Acquire", "(*internal/sync.Mutex).lockSlow", "internal/sync.runtime_canSpin", "internal/sync.runtime_doSpin", "internal/sync.throw", "internal/sync.runtime_nanotime", "internal/sync.runtime_SemacquireMutex", "sync/atomic.AddInt32", "(*internal/sync.Mutex).Unlock", "internal/race.ReleaseMerge", "(*internal/sync.Mutex).unlockSlow", "internal/sync.fatal", "internal/sync.runtime_Semrelease", "sync/atomic.StoreUint32", "sync/atomic.AddInt64", "sync/atomic.LoadInt64"], unfollowed := true, recurses := true, apart := false }
def SumsTellSaid : Prop := sumsTellRow.holds Try.pinned (OpenSpec.ofChange sumsTellSpec)

/-- ITS FALSE NEIGHBOUR: 'it returns false'. Refute it at one input. -/
def sumsTellWrong : ChangeSpec := { name := "sumsTell", fn := fun _ => fun
  | [d1, d2] => { results := [.lit (.bool false)], args := [d1, d2] }
  | _ => none }
def SumsTellWrongFalsely : Prop := sumsTellRow.holds Try.pinned (OpenSpec.ofChange sumsTellWrong)

/-- 'pigeonloftlaw14.JournalAnew': WHATEVER THE INPUT: true; the input reads as it did. -/
def journalAnewSpec : ChangeSpec := { name := "journalAnew", fn := fun _ => fun
  | [d1, d2, d3] => { results := [.lit (.bool true)], args := [d1, d2, d3] }
  | _ => none }
def journalAnewRow : OpenClaim := { program := "ytnnhklembdaieaa", sum := "e5cf8bff368a05a232cf1be6258f6fe8379118361e3aa0f8d607a30283a1b8ac", func := "pigeonloft/pigeonloftlaw14.JournalAnew", spec := "journalAnew", inPlace := ["sync/atomic.AddInt64"], unfollowed := true, recurses := true, apart := false }
def JournalAnewSaid : Prop := journalAnewRow.holds Try.pinned (OpenSpec.ofChange journalAnewSpec)

/-- ITS FALSE NEIGHBOUR: 'it returns false'. Refute it at one input. -/
def journalAnewWrong : ChangeSpec := { name := "journalAnew", fn := fun _ => fun
  | [d1, d2, d3] => { results := [.lit (.bool false)], args := [d1, d2, d3] }
  | _ => none }
def JournalAnewWrongFalsely : Prop := journalAnewRow.holds Try.pinned (OpenSpec.ofChange journalAnewWrong)

/-- 'pigeonloftlaw01.SumsBursts': WHATEVER THE INPUT: true; the input reads as it did. -/
def sumsBurstsSpec : ChangeSpec := { name := "sumsBursts", fn := fun _ => fun
  | [d1, d2, d3] => { results := [.lit (.bool true)], args := [d1, d2, d3] }
  | _ => none }
def sumsBurstsRow : OpenClaim := { program := "ytnnhklembdaieaa", sum := "e5cf8bff368a05a232cf1be6258f6fe8379118361e3aa0f8d607a30283a1b8ac", func := "pigeonloft/pigeonloftlaw01.SumsBursts", spec := "sumsBursts", inPlace := ["sync/atomic.LoadUint32", "(*internal/sync.Mutex).Lock", "internal/race.Disable", "sync/atomic.CompareAndSwapInt32", "internal/race.Enable", "internal/race.Acquire", "(*internal/sync.Mutex).lockSlow", "internal/sync.runtime_canSpin", "internal/sync.runtime_doSpin", "internal/sync.throw", "internal/sync.runtime_nanotime", "internal/sync.runtime_SemacquireMutex", "sync/atomic.AddInt32", "(*internal/sync.Mutex).Unlock", "internal/race.ReleaseMerge", "(*internal/sync.Mutex).unlockSlow", "internal/sync.fatal", "internal/sync.runtime_Semrelease", "sync/atomic.StoreUint32", "sync/atomic.AddInt64", "sync/atomic.LoadInt64"], unfollowed := true, recurses := true, apart := false }
def SumsBurstsSaid : Prop := sumsBurstsRow.holds Try.pinned (OpenSpec.ofChange sumsBurstsSpec)

/-- ITS FALSE NEIGHBOUR: 'it returns false'. Refute it at one input. -/
def sumsBurstsWrong : ChangeSpec := { name := "sumsBursts", fn := fun _ => fun
  | [d1, d2, d3] => { results := [.lit (.bool false)], args := [d1, d2, d3] }
  | _ => none }
def SumsBurstsWrongFalsely : Prop := sumsBurstsRow.holds Try.pinned (OpenSpec.ofChange sumsBurstsWrong)

/-- 'pigeonloftlaw14.JournalLives': WHATEVER THE INPUT: true; the input reads as it did. -/
def journalLivesSpec : ChangeSpec := { name := "journalLives", fn := fun _ => fun
  | [d1, d2, d3] => { results := [.lit (.bool true)], args := [d1, d2, d3] }
  | _ => none }
def journalLivesRow : OpenClaim := { program := "ytnnhklembdaieaa", sum := "e5cf8bff368a05a232cf1be6258f6fe8379118361e3aa0f8d607a30283a1b8ac", func := "pigeonloft/pigeonloftlaw14.JournalLives", spec := "journalLives", inPlace := ["sync/atomic.AddInt64"], unfollowed := true, recurses := true, apart := false }
def JournalLivesSaid : Prop := journalLivesRow.holds Try.pinned (OpenSpec.ofChange journalLivesSpec)

/-- ITS FALSE NEIGHBOUR: 'it returns false'. Refute it at one input. -/
def journalLivesWrong : ChangeSpec := { name := "journalLives", fn := fun _ => fun
  | [d1, d2, d3] => { results := [.lit (.bool false)], args := [d1, d2, d3] }
  | _ => none }
def JournalLivesWrongFalsely : Prop := journalLivesRow.holds Try.pinned (OpenSpec.ofChange journalLivesWrong)

/-- 'pigeonloftlaw01.SumsTogether': WHATEVER THE INPUT: true; the input reads as it did. -/
def sumsTogetherSpec : ChangeSpec := { name := "sumsTogether", fn := fun _ => fun
  | [d1, d2, d3] => { results := [.lit (.bool true)], args := [d1, d2, d3] }
  | _ => none }
def sumsTogetherRow : OpenClaim := { program := "ytnnhklembdaieaa", sum := "e5cf8bff368a05a232cf1be6258f6fe8379118361e3aa0f8d607a30283a1b8ac", func := "pigeonloft/pigeonloftlaw01.SumsTogether", spec := "sumsTogether", inPlace := ["sync/atomic.LoadUint32", "(*internal/sync.Mutex).Lock", "internal/race.Disable", "sync/atomic.CompareAndSwapInt32", "internal/race.Enable", "internal/race.Acquire", "(*internal/sync.Mutex).lockSlow", "internal/sync.runtime_canSpin", "internal/sync.runtime_doSpin", "internal/sync.throw", "internal/sync.runtime_nanotime", "internal/sync.runtime_SemacquireMutex", "sync/atomic.AddInt32", "(*internal/sync.Mutex).Unlock", "internal/race.ReleaseMerge", "(*internal/sync.Mutex).unlockSlow", "internal/sync.fatal", "internal/sync.runtime_Semrelease", "sync/atomic.StoreUint32", "sync/atomic.AddInt64", "sync/atomic.LoadInt64"], unfollowed := true, recurses := true, apart := false }
def SumsTogetherSaid : Prop := sumsTogetherRow.holds Try.pinned (OpenSpec.ofChange sumsTogetherSpec)

/-- ITS FALSE NEIGHBOUR: 'it returns false'. Refute it at one input. -/
def sumsTogetherWrong : ChangeSpec := { name := "sumsTogether", fn := fun _ => fun
  | [d1, d2, d3] => { results := [.lit (.bool false)], args := [d1, d2, d3] }
  | _ => none }
def SumsTogetherWrongFalsely : Prop := sumsTogetherRow.holds Try.pinned (OpenSpec.ofChange sumsTogetherWrong)

/-- 'pigeonloftlaw01.SumsCounted': WHATEVER THE INPUT: true; the input reads as it did. -/
def sumsCountedSpec : ChangeSpec := { name := "sumsCounted", fn := fun _ => fun
  | [d] => { results := [.lit (.bool true)], args := [d] }
  | _ => none }
def sumsCountedRow : OpenClaim := { program := "ytnnhklembdaieaa", sum := "e5cf8bff368a05a232cf1be6258f6fe8379118361e3aa0f8d607a30283a1b8ac", func := "pigeonloft/pigeonloftlaw01.SumsCounted", spec := "sumsCounted", inPlace := ["sync/atomic.LoadUint32", "(*internal/sync.Mutex).Lock", "internal/race.Disable", "sync/atomic.CompareAndSwapInt32", "internal/race.Enable", "internal/race.Acquire", "(*internal/sync.Mutex).lockSlow", "internal/sync.runtime_canSpin", "internal/sync.runtime_doSpin", "internal/sync.throw", "internal/sync.runtime_nanotime", "internal/sync.runtime_SemacquireMutex", "sync/atomic.AddInt32", "(*internal/sync.Mutex).Unlock", "internal/race.ReleaseMerge", "(*internal/sync.Mutex).unlockSlow", "internal/sync.fatal", "internal/sync.runtime_Semrelease", "sync/atomic.StoreUint32", "sync/atomic.AddInt64", "sync/atomic.LoadInt64"], unfollowed := true, recurses := true, apart := false }
def SumsCountedSaid : Prop := sumsCountedRow.holds Try.pinned (OpenSpec.ofChange sumsCountedSpec)

/-- ITS FALSE NEIGHBOUR: 'it returns false'. Refute it at one input. -/
def sumsCountedWrong : ChangeSpec := { name := "sumsCounted", fn := fun _ => fun
  | [d] => { results := [.lit (.bool false)], args := [d] }
  | _ => none }
def SumsCountedWrongFalsely : Prop := sumsCountedRow.holds Try.pinned (OpenSpec.ofChange sumsCountedWrong)

/-- 'pigeonloftlaw13.AreaBack': WHATEVER THE INPUT: true; the input reads as it did. -/
def areaBackSpec : ChangeSpec := { name := "areaBack", fn := fun _ => fun
  | [d1, d2, d3] => { results := [.lit (.bool true)], args := [d1, d2, d3] }
  | _ => none }
def areaBackRow : OpenClaim := { program := "ytnnhklembdaieaa", sum := "e5cf8bff368a05a232cf1be6258f6fe8379118361e3aa0f8d607a30283a1b8ac", func := "pigeonloft/pigeonloftlaw13.AreaBack", spec := "areaBack", inPlace := ["sync/atomic.AddInt64"], apart := false }
def AreaBackSaid : Prop := areaBackRow.holds Try.pinned (OpenSpec.ofChange areaBackSpec)

/-- ITS FALSE NEIGHBOUR: 'it returns false'. Refute it at one input. -/
def areaBackWrong : ChangeSpec := { name := "areaBack", fn := fun _ => fun
  | [d1, d2, d3] => { results := [.lit (.bool false)], args := [d1, d2, d3] }
  | _ => none }
def AreaBackWrongFalsely : Prop := areaBackRow.holds Try.pinned (OpenSpec.ofChange areaBackWrong)

/-- 'pigeonloftlaw13.AreaHalves': WHATEVER THE INPUT: true; the input reads as it did. -/
def areaHalvesSpec : ChangeSpec := { name := "areaHalves", fn := fun _ => fun
  | [d] => { results := [.lit (.bool true)], args := [d] }
  | _ => none }
def areaHalvesRow : OpenClaim := { program := "ytnnhklembdaieaa", sum := "e5cf8bff368a05a232cf1be6258f6fe8379118361e3aa0f8d607a30283a1b8ac", func := "pigeonloft/pigeonloftlaw13.AreaHalves", spec := "areaHalves", inPlace := ["sync/atomic.AddInt64"], apart := false }
def AreaHalvesSaid : Prop := areaHalvesRow.holds Try.pinned (OpenSpec.ofChange areaHalvesSpec)

/-- ITS FALSE NEIGHBOUR: 'it returns false'. Refute it at one input. -/
def areaHalvesWrong : ChangeSpec := { name := "areaHalves", fn := fun _ => fun
  | [d] => { results := [.lit (.bool false)], args := [d] }
  | _ => none }
def AreaHalvesWrongFalsely : Prop := areaHalvesRow.holds Try.pinned (OpenSpec.ofChange areaHalvesWrong)

/-- 'pigeonloftlaw12.SuperTells': WHATEVER THE INPUT: true; the input reads as it did. -/
def superTellsSpec : ChangeSpec := { name := "superTells", fn := fun _ => fun
  | [d1, d2] => { results := [.lit (.bool true)], args := [d1, d2] }
  | _ => none }
def superTellsRow : OpenClaim := { program := "ytnnhklembdaieaa", sum := "e5cf8bff368a05a232cf1be6258f6fe8379118361e3aa0f8d607a30283a1b8ac", func := "pigeonloft/pigeonloftlaw12.SuperTells", spec := "superTells", inPlace := ["sync/atomic.AddInt64"], apart := false }
def SuperTellsSaid : Prop := superTellsRow.holds Try.pinned (OpenSpec.ofChange superTellsSpec)

/-- ITS FALSE NEIGHBOUR: 'it returns false'. Refute it at one input. -/
def superTellsWrong : ChangeSpec := { name := "superTells", fn := fun _ => fun
  | [d1, d2] => { results := [.lit (.bool false)], args := [d1, d2] }
  | _ => none }
def SuperTellsWrongFalsely : Prop := superTellsRow.holds Try.pinned (OpenSpec.ofChange superTellsWrong)

/-- 'pigeonloftlaw12.SuperBack': WHATEVER THE INPUT: true; the input reads as it did. -/
def superBackSpec : ChangeSpec := { name := "superBack", fn := fun _ => fun
  | [d1, d2] => { results := [.lit (.bool true)], args := [d1, d2] }
  | _ => none }
def superBackRow : OpenClaim := { program := "ytnnhklembdaieaa", sum := "e5cf8bff368a05a232cf1be6258f6fe8379118361e3aa0f8d607a30283a1b8ac", func := "pigeonloft/pigeonloftlaw12.SuperBack", spec := "superBack", inPlace := ["sync/atomic.AddInt64"], apart := false }
def SuperBackSaid : Prop := superBackRow.holds Try.pinned (OpenSpec.ofChange superBackSpec)

/-- ITS FALSE NEIGHBOUR: 'it returns false'. Refute it at one input. -/
def superBackWrong : ChangeSpec := { name := "superBack", fn := fun _ => fun
  | [d1, d2] => { results := [.lit (.bool false)], args := [d1, d2] }
  | _ => none }
def SuperBackWrongFalsely : Prop := superBackRow.holds Try.pinned (OpenSpec.ofChange superBackWrong)

/-- 'pigeonloftlaw12.SuperTurned': WHATEVER THE INPUT: true; the input reads as it did. -/
def superTurnedSpec : ChangeSpec := { name := "superTurned", fn := fun _ => fun
  | [d1, d2, d3, d4] => { results := [.lit (.bool true)], args := [d1, d2, d3, d4] }
  | _ => none }
def superTurnedRow : OpenClaim := { program := "ytnnhklembdaieaa", sum := "e5cf8bff368a05a232cf1be6258f6fe8379118361e3aa0f8d607a30283a1b8ac", func := "pigeonloft/pigeonloftlaw12.SuperTurned", spec := "superTurned", inPlace := ["sync/atomic.AddInt64"], apart := false }
def SuperTurnedSaid : Prop := superTurnedRow.holds Try.pinned (OpenSpec.ofChange superTurnedSpec)

/-- ITS FALSE NEIGHBOUR: 'it returns false'. Refute it at one input. -/
def superTurnedWrong : ChangeSpec := { name := "superTurned", fn := fun _ => fun
  | [d1, d2, d3, d4] => { results := [.lit (.bool false)], args := [d1, d2, d3, d4] }
  | _ => none }
def SuperTurnedWrongFalsely : Prop := superTurnedRow.holds Try.pinned (OpenSpec.ofChange superTurnedWrong)

/-- 'pigeonloftlaw12.SuperNewest': WHATEVER THE INPUT: true; the input reads as it did. -/
def superNewestSpec : ChangeSpec := { name := "superNewest", fn := fun _ => fun
  | [d1, d2, d3, d4] => { results := [.lit (.bool true)], args := [d1, d2, d3, d4] }
  | _ => none }
def superNewestRow : OpenClaim := { program := "ytnnhklembdaieaa", sum := "e5cf8bff368a05a232cf1be6258f6fe8379118361e3aa0f8d607a30283a1b8ac", func := "pigeonloft/pigeonloftlaw12.SuperNewest", spec := "superNewest", inPlace := ["sync/atomic.AddInt64"], apart := false }
def SuperNewestSaid : Prop := superNewestRow.holds Try.pinned (OpenSpec.ofChange superNewestSpec)

/-- ITS FALSE NEIGHBOUR: 'it returns false'. Refute it at one input. -/
def superNewestWrong : ChangeSpec := { name := "superNewest", fn := fun _ => fun
  | [d1, d2, d3, d4] => { results := [.lit (.bool false)], args := [d1, d2, d3, d4] }
  | _ => none }
def SuperNewestWrongFalsely : Prop := superNewestRow.holds Try.pinned (OpenSpec.ofChange superNewestWrong)

/-- 'pigeonloftlaw12.SuperFollows': WHATEVER THE INPUT: true; the input reads as it did. -/
def superFollowsSpec : ChangeSpec := { name := "superFollows", fn := fun _ => fun
  | [d1, d2, d3] => { results := [.lit (.bool true)], args := [d1, d2, d3] }
  | _ => none }
def superFollowsRow : OpenClaim := { program := "ytnnhklembdaieaa", sum := "e5cf8bff368a05a232cf1be6258f6fe8379118361e3aa0f8d607a30283a1b8ac", func := "pigeonloft/pigeonloftlaw12.SuperFollows", spec := "superFollows", inPlace := ["sync/atomic.AddInt64"], apart := false }
def SuperFollowsSaid : Prop := superFollowsRow.holds Try.pinned (OpenSpec.ofChange superFollowsSpec)

/-- ITS FALSE NEIGHBOUR: 'it returns false'. Refute it at one input. -/
def superFollowsWrong : ChangeSpec := { name := "superFollows", fn := fun _ => fun
  | [d1, d2, d3] => { results := [.lit (.bool false)], args := [d1, d2, d3] }
  | _ => none }
def SuperFollowsWrongFalsely : Prop := superFollowsRow.holds Try.pinned (OpenSpec.ofChange superFollowsWrong)

/-- 'pigeonloftlaw14.JournalFour': WHATEVER THE INPUT: true; the input reads as it did. -/
def journalFourSpec : ChangeSpec := { name := "journalFour", fn := fun _ => fun
  | [d1, d2] => { results := [.lit (.bool true)], args := [d1, d2] }
  | _ => none }
def journalFourRow : OpenClaim := { program := "ytnnhklembdaieaa", sum := "e5cf8bff368a05a232cf1be6258f6fe8379118361e3aa0f8d607a30283a1b8ac", func := "pigeonloft/pigeonloftlaw14.JournalFour", spec := "journalFour", inPlace := ["sync/atomic.AddInt64"], unfollowed := true, recurses := true, apart := false }
def JournalFourSaid : Prop := journalFourRow.holds Try.pinned (OpenSpec.ofChange journalFourSpec)

/-- ITS FALSE NEIGHBOUR: 'it returns false'. Refute it at one input. -/
def journalFourWrong : ChangeSpec := { name := "journalFour", fn := fun _ => fun
  | [d1, d2] => { results := [.lit (.bool false)], args := [d1, d2] }
  | _ => none }
def JournalFourWrongFalsely : Prop := journalFourRow.holds Try.pinned (OpenSpec.ofChange journalFourWrong)

/-- 'pigeonloftlaw14.JournalBegins': WHATEVER THE INPUT: true; the input reads as it did. -/
def journalBeginsSpec : ChangeSpec := { name := "journalBegins", fn := fun _ => fun
  | [d1, d2] => { results := [.lit (.bool true)], args := [d1, d2] }
  | _ => none }
def journalBeginsRow : OpenClaim := { program := "ytnnhklembdaieaa", sum := "e5cf8bff368a05a232cf1be6258f6fe8379118361e3aa0f8d607a30283a1b8ac", func := "pigeonloft/pigeonloftlaw14.JournalBegins", spec := "journalBegins", inPlace := ["sync/atomic.AddInt64"], unfollowed := true, recurses := true, apart := false }
def JournalBeginsSaid : Prop := journalBeginsRow.holds Try.pinned (OpenSpec.ofChange journalBeginsSpec)

/-- ITS FALSE NEIGHBOUR: 'it returns false'. Refute it at one input. -/
def journalBeginsWrong : ChangeSpec := { name := "journalBegins", fn := fun _ => fun
  | [d1, d2] => { results := [.lit (.bool false)], args := [d1, d2] }
  | _ => none }
def JournalBeginsWrongFalsely : Prop := journalBeginsRow.holds Try.pinned (OpenSpec.ofChange journalBeginsWrong)

/- THE SECOND FORM. 'bulk': how many values and letters a reading holds, each counted each time it is reached (what is shared counts as often as it is met; a slice's spare places count too). A statement '..UptoSaid' is the law's where the arguments, and the package variables that the reading takes, are together of bulk at most 1048576: NARROWER than '..Said'. Prove '..Said' where nothing that the law and all that it calls make is longer than what came in: it says more and counts as full. Else prove '..UptoSaid'. A law counts once. -/
mutual
def uptoBulk {H : Type} : DataW H → Nat
  | .lit (.string bytes) => bytes.length + 1
  | .lit _ => 1
  | .nil => 1
  | .ptr d => uptoBulk d + 1
  | .slice elems spare => uptoBulkAll elems + uptoBulkAll spare + 1
  | .agg parts => uptoBulkAll parts + 1
  | .iface _ d => uptoBulk d + 1
  | .map entries => uptoBulkEntries entries + 1
  | .held _ => 1
def uptoBulkAll {H : Type} : List (DataW H) → Nat
  | [] => 0
  | d :: r => uptoBulk d + uptoBulkAll r
def uptoBulkEntries {H : Type} : List (Lit × DataW H) → Nat
  | [] => 0
  | x :: r => uptoBulkEntry x + uptoBulkEntries r
def uptoBulkEntry {H : Type} : Lit × DataW H → Nat
  | (.string bytes, d) => bytes.length + uptoBulk d + 1
  | (_, d) => uptoBulk d + 1
 end
def uptoSmall : (H : Type) → List (DataW H) → Bool := fun _ ds => decide (uptoBulkAll ds ≤ 1048576)
def OpenSpec.upto (s : _root_.Go.ChangeSpec) : _root_.Go.OpenSpec := { _root_.Go.OpenSpec.ofChange s with cond := some uptoSmall }

/-- 'pigeonloftlaw11.DiskLast', WHERE WHAT IT READS IS OF BULK AT MOST 1048576: true; the input reads as it did. -/
def diskLastUptoRow : OpenClaim := { program := "ytnnhklembdaieaa", sum := "e5cf8bff368a05a232cf1be6258f6fe8379118361e3aa0f8d607a30283a1b8ac", func := "pigeonloft/pigeonloftlaw11.DiskLast", spec := "diskLast", inPlace := ["sync/atomic.AddInt64", "sync/atomic.LoadInt64"], apart := false, narrowed := true }
def DiskLastUptoSaid : Prop := diskLastUptoRow.holds Try.pinned (OpenSpec.upto diskLastSpec)

/-- 'pigeonloftlaw11.DiskLives', WHERE WHAT IT READS IS OF BULK AT MOST 1048576: true; the input reads as it did. -/
def diskLivesUptoRow : OpenClaim := { program := "ytnnhklembdaieaa", sum := "e5cf8bff368a05a232cf1be6258f6fe8379118361e3aa0f8d607a30283a1b8ac", func := "pigeonloft/pigeonloftlaw11.DiskLives", spec := "diskLives", inPlace := ["sync/atomic.AddInt64", "sync/atomic.LoadInt64"], apart := false, narrowed := true }
def DiskLivesUptoSaid : Prop := diskLivesUptoRow.holds Try.pinned (OpenSpec.upto diskLivesSpec)

/-- 'pigeonloftlaw11.DiskKeeps', WHERE WHAT IT READS IS OF BULK AT MOST 1048576: true; the input reads as it did. -/
def diskKeepsUptoRow : OpenClaim := { program := "ytnnhklembdaieaa", sum := "e5cf8bff368a05a232cf1be6258f6fe8379118361e3aa0f8d607a30283a1b8ac", func := "pigeonloft/pigeonloftlaw11.DiskKeeps", spec := "diskKeeps", inPlace := ["sync/atomic.AddInt64", "sync/atomic.LoadInt64"], apart := false, narrowed := true }
def DiskKeepsUptoSaid : Prop := diskKeepsUptoRow.holds Try.pinned (OpenSpec.upto diskKeepsSpec)

/-- 'pigeonloftlaw01.SumsTell', WHERE WHAT IT READS IS OF BULK AT MOST 1048576: true; the input reads as it did. -/
def sumsTellUptoRow : OpenClaim := { program := "ytnnhklembdaieaa", sum := "e5cf8bff368a05a232cf1be6258f6fe8379118361e3aa0f8d607a30283a1b8ac", func := "pigeonloft/pigeonloftlaw01.SumsTell", spec := "sumsTell", inPlace := ["sync/atomic.LoadUint32", "(*internal/sync.Mutex).Lock", "internal/race.Disable", "sync/atomic.CompareAndSwapInt32", "internal/race.Enable", "internal/race.Acquire", "(*internal/sync.Mutex).lockSlow", "internal/sync.runtime_canSpin", "internal/sync.runtime_doSpin", "internal/sync.throw", "internal/sync.runtime_nanotime", "internal/sync.runtime_SemacquireMutex", "sync/atomic.AddInt32", "(*internal/sync.Mutex).Unlock", "internal/race.ReleaseMerge", "(*internal/sync.Mutex).unlockSlow", "internal/sync.fatal", "internal/sync.runtime_Semrelease", "sync/atomic.StoreUint32", "sync/atomic.AddInt64", "sync/atomic.LoadInt64"], unfollowed := true, recurses := true, apart := false, narrowed := true }
def SumsTellUptoSaid : Prop := sumsTellUptoRow.holds Try.pinned (OpenSpec.upto sumsTellSpec)

/-- 'pigeonloftlaw14.JournalAnew', WHERE WHAT IT READS IS OF BULK AT MOST 1048576: true; the input reads as it did. -/
def journalAnewUptoRow : OpenClaim := { program := "ytnnhklembdaieaa", sum := "e5cf8bff368a05a232cf1be6258f6fe8379118361e3aa0f8d607a30283a1b8ac", func := "pigeonloft/pigeonloftlaw14.JournalAnew", spec := "journalAnew", inPlace := ["sync/atomic.AddInt64"], unfollowed := true, recurses := true, apart := false, narrowed := true }
def JournalAnewUptoSaid : Prop := journalAnewUptoRow.holds Try.pinned (OpenSpec.upto journalAnewSpec)

/-- 'pigeonloftlaw01.SumsBursts', WHERE WHAT IT READS IS OF BULK AT MOST 1048576: true; the input reads as it did. -/
def sumsBurstsUptoRow : OpenClaim := { program := "ytnnhklembdaieaa", sum := "e5cf8bff368a05a232cf1be6258f6fe8379118361e3aa0f8d607a30283a1b8ac", func := "pigeonloft/pigeonloftlaw01.SumsBursts", spec := "sumsBursts", inPlace := ["sync/atomic.LoadUint32", "(*internal/sync.Mutex).Lock", "internal/race.Disable", "sync/atomic.CompareAndSwapInt32", "internal/race.Enable", "internal/race.Acquire", "(*internal/sync.Mutex).lockSlow", "internal/sync.runtime_canSpin", "internal/sync.runtime_doSpin", "internal/sync.throw", "internal/sync.runtime_nanotime", "internal/sync.runtime_SemacquireMutex", "sync/atomic.AddInt32", "(*internal/sync.Mutex).Unlock", "internal/race.ReleaseMerge", "(*internal/sync.Mutex).unlockSlow", "internal/sync.fatal", "internal/sync.runtime_Semrelease", "sync/atomic.StoreUint32", "sync/atomic.AddInt64", "sync/atomic.LoadInt64"], unfollowed := true, recurses := true, apart := false, narrowed := true }
def SumsBurstsUptoSaid : Prop := sumsBurstsUptoRow.holds Try.pinned (OpenSpec.upto sumsBurstsSpec)

/-- 'pigeonloftlaw14.JournalLives', WHERE WHAT IT READS IS OF BULK AT MOST 1048576: true; the input reads as it did. -/
def journalLivesUptoRow : OpenClaim := { program := "ytnnhklembdaieaa", sum := "e5cf8bff368a05a232cf1be6258f6fe8379118361e3aa0f8d607a30283a1b8ac", func := "pigeonloft/pigeonloftlaw14.JournalLives", spec := "journalLives", inPlace := ["sync/atomic.AddInt64"], unfollowed := true, recurses := true, apart := false, narrowed := true }
def JournalLivesUptoSaid : Prop := journalLivesUptoRow.holds Try.pinned (OpenSpec.upto journalLivesSpec)

/-- 'pigeonloftlaw01.SumsTogether', WHERE WHAT IT READS IS OF BULK AT MOST 1048576: true; the input reads as it did. -/
def sumsTogetherUptoRow : OpenClaim := { program := "ytnnhklembdaieaa", sum := "e5cf8bff368a05a232cf1be6258f6fe8379118361e3aa0f8d607a30283a1b8ac", func := "pigeonloft/pigeonloftlaw01.SumsTogether", spec := "sumsTogether", inPlace := ["sync/atomic.LoadUint32", "(*internal/sync.Mutex).Lock", "internal/race.Disable", "sync/atomic.CompareAndSwapInt32", "internal/race.Enable", "internal/race.Acquire", "(*internal/sync.Mutex).lockSlow", "internal/sync.runtime_canSpin", "internal/sync.runtime_doSpin", "internal/sync.throw", "internal/sync.runtime_nanotime", "internal/sync.runtime_SemacquireMutex", "sync/atomic.AddInt32", "(*internal/sync.Mutex).Unlock", "internal/race.ReleaseMerge", "(*internal/sync.Mutex).unlockSlow", "internal/sync.fatal", "internal/sync.runtime_Semrelease", "sync/atomic.StoreUint32", "sync/atomic.AddInt64", "sync/atomic.LoadInt64"], unfollowed := true, recurses := true, apart := false, narrowed := true }
def SumsTogetherUptoSaid : Prop := sumsTogetherUptoRow.holds Try.pinned (OpenSpec.upto sumsTogetherSpec)

/-- 'pigeonloftlaw01.SumsCounted', WHERE WHAT IT READS IS OF BULK AT MOST 1048576: true; the input reads as it did. -/
def sumsCountedUptoRow : OpenClaim := { program := "ytnnhklembdaieaa", sum := "e5cf8bff368a05a232cf1be6258f6fe8379118361e3aa0f8d607a30283a1b8ac", func := "pigeonloft/pigeonloftlaw01.SumsCounted", spec := "sumsCounted", inPlace := ["sync/atomic.LoadUint32", "(*internal/sync.Mutex).Lock", "internal/race.Disable", "sync/atomic.CompareAndSwapInt32", "internal/race.Enable", "internal/race.Acquire", "(*internal/sync.Mutex).lockSlow", "internal/sync.runtime_canSpin", "internal/sync.runtime_doSpin", "internal/sync.throw", "internal/sync.runtime_nanotime", "internal/sync.runtime_SemacquireMutex", "sync/atomic.AddInt32", "(*internal/sync.Mutex).Unlock", "internal/race.ReleaseMerge", "(*internal/sync.Mutex).unlockSlow", "internal/sync.fatal", "internal/sync.runtime_Semrelease", "sync/atomic.StoreUint32", "sync/atomic.AddInt64", "sync/atomic.LoadInt64"], unfollowed := true, recurses := true, apart := false, narrowed := true }
def SumsCountedUptoSaid : Prop := sumsCountedUptoRow.holds Try.pinned (OpenSpec.upto sumsCountedSpec)

/-- 'pigeonloftlaw13.AreaBack', WHERE WHAT IT READS IS OF BULK AT MOST 1048576: true; the input reads as it did. -/
def areaBackUptoRow : OpenClaim := { program := "ytnnhklembdaieaa", sum := "e5cf8bff368a05a232cf1be6258f6fe8379118361e3aa0f8d607a30283a1b8ac", func := "pigeonloft/pigeonloftlaw13.AreaBack", spec := "areaBack", inPlace := ["sync/atomic.AddInt64"], apart := false, narrowed := true }
def AreaBackUptoSaid : Prop := areaBackUptoRow.holds Try.pinned (OpenSpec.upto areaBackSpec)

/-- 'pigeonloftlaw13.AreaHalves', WHERE WHAT IT READS IS OF BULK AT MOST 1048576: true; the input reads as it did. -/
def areaHalvesUptoRow : OpenClaim := { program := "ytnnhklembdaieaa", sum := "e5cf8bff368a05a232cf1be6258f6fe8379118361e3aa0f8d607a30283a1b8ac", func := "pigeonloft/pigeonloftlaw13.AreaHalves", spec := "areaHalves", inPlace := ["sync/atomic.AddInt64"], apart := false, narrowed := true }
def AreaHalvesUptoSaid : Prop := areaHalvesUptoRow.holds Try.pinned (OpenSpec.upto areaHalvesSpec)

/-- 'pigeonloftlaw12.SuperTells', WHERE WHAT IT READS IS OF BULK AT MOST 1048576: true; the input reads as it did. -/
def superTellsUptoRow : OpenClaim := { program := "ytnnhklembdaieaa", sum := "e5cf8bff368a05a232cf1be6258f6fe8379118361e3aa0f8d607a30283a1b8ac", func := "pigeonloft/pigeonloftlaw12.SuperTells", spec := "superTells", inPlace := ["sync/atomic.AddInt64"], apart := false, narrowed := true }
def SuperTellsUptoSaid : Prop := superTellsUptoRow.holds Try.pinned (OpenSpec.upto superTellsSpec)

/-- 'pigeonloftlaw12.SuperBack', WHERE WHAT IT READS IS OF BULK AT MOST 1048576: true; the input reads as it did. -/
def superBackUptoRow : OpenClaim := { program := "ytnnhklembdaieaa", sum := "e5cf8bff368a05a232cf1be6258f6fe8379118361e3aa0f8d607a30283a1b8ac", func := "pigeonloft/pigeonloftlaw12.SuperBack", spec := "superBack", inPlace := ["sync/atomic.AddInt64"], apart := false, narrowed := true }
def SuperBackUptoSaid : Prop := superBackUptoRow.holds Try.pinned (OpenSpec.upto superBackSpec)

/-- 'pigeonloftlaw12.SuperTurned', WHERE WHAT IT READS IS OF BULK AT MOST 1048576: true; the input reads as it did. -/
def superTurnedUptoRow : OpenClaim := { program := "ytnnhklembdaieaa", sum := "e5cf8bff368a05a232cf1be6258f6fe8379118361e3aa0f8d607a30283a1b8ac", func := "pigeonloft/pigeonloftlaw12.SuperTurned", spec := "superTurned", inPlace := ["sync/atomic.AddInt64"], apart := false, narrowed := true }
def SuperTurnedUptoSaid : Prop := superTurnedUptoRow.holds Try.pinned (OpenSpec.upto superTurnedSpec)

/-- 'pigeonloftlaw12.SuperNewest', WHERE WHAT IT READS IS OF BULK AT MOST 1048576: true; the input reads as it did. -/
def superNewestUptoRow : OpenClaim := { program := "ytnnhklembdaieaa", sum := "e5cf8bff368a05a232cf1be6258f6fe8379118361e3aa0f8d607a30283a1b8ac", func := "pigeonloft/pigeonloftlaw12.SuperNewest", spec := "superNewest", inPlace := ["sync/atomic.AddInt64"], apart := false, narrowed := true }
def SuperNewestUptoSaid : Prop := superNewestUptoRow.holds Try.pinned (OpenSpec.upto superNewestSpec)

/-- 'pigeonloftlaw12.SuperFollows', WHERE WHAT IT READS IS OF BULK AT MOST 1048576: true; the input reads as it did. -/
def superFollowsUptoRow : OpenClaim := { program := "ytnnhklembdaieaa", sum := "e5cf8bff368a05a232cf1be6258f6fe8379118361e3aa0f8d607a30283a1b8ac", func := "pigeonloft/pigeonloftlaw12.SuperFollows", spec := "superFollows", inPlace := ["sync/atomic.AddInt64"], apart := false, narrowed := true }
def SuperFollowsUptoSaid : Prop := superFollowsUptoRow.holds Try.pinned (OpenSpec.upto superFollowsSpec)

/-- 'pigeonloftlaw14.JournalFour', WHERE WHAT IT READS IS OF BULK AT MOST 1048576: true; the input reads as it did. -/
def journalFourUptoRow : OpenClaim := { program := "ytnnhklembdaieaa", sum := "e5cf8bff368a05a232cf1be6258f6fe8379118361e3aa0f8d607a30283a1b8ac", func := "pigeonloft/pigeonloftlaw14.JournalFour", spec := "journalFour", inPlace := ["sync/atomic.AddInt64"], unfollowed := true, recurses := true, apart := false, narrowed := true }
def JournalFourUptoSaid : Prop := journalFourUptoRow.holds Try.pinned (OpenSpec.upto journalFourSpec)

/-- 'pigeonloftlaw14.JournalBegins', WHERE WHAT IT READS IS OF BULK AT MOST 1048576: true; the input reads as it did. -/
def journalBeginsUptoRow : OpenClaim := { program := "ytnnhklembdaieaa", sum := "e5cf8bff368a05a232cf1be6258f6fe8379118361e3aa0f8d607a30283a1b8ac", func := "pigeonloft/pigeonloftlaw14.JournalBegins", spec := "journalBegins", inPlace := ["sync/atomic.AddInt64"], unfollowed := true, recurses := true, apart := false, narrowed := true }
def JournalBeginsUptoSaid : Prop := journalBeginsUptoRow.holds Try.pinned (OpenSpec.upto journalBeginsSpec)

end Rows
end Go.Proofs.Ytnnhklembdaieaa
