/- Which numbers of packets are valid: plain. No program here. -/
import Derived.Test.YtodfcalaggfldaaCirc
import Derived.Test.YtodfcalaggfldaaHdA
namespace Go.Proofs.Ytodfcalaggfldaa.Span
set_option linter.unusedVariables false
set_option linter.unusedSimpArgs false
open Go.Proofs.Ytodfcalaggfldaa

/-- ISS, ISR, GSS, GSR, GAR -/
structure Marks where
  iss : Int
  isr : Int
  gss : Int
  gsr : Int
  gar : Int
  deriving DecidableEq
abbrev Marks.v (m : Marks) : Value := .agg #[.int .i64 m.iss, .int .i64 m.isr, .int .i64 m.gss, .int .i64 m.gsr, .int .i64 m.gar]
def begin (iss gss isr gsr : Int) : Marks := ⟨Circ.of iss, Circ.of isr, Circ.of gss, Circ.of gsr, Circ.of iss⟩
def swl (m : Marks) : Int := Circ.later (Circ.add m.gsr (-15)) m.isr
def swh (m : Marks) : Int := Circ.add m.gsr 48
def awl (m : Marks) : Int := Circ.later (Circ.add m.gss (-63)) m.iss
def awh (m : Marks) : Int := Circ.of m.gss
def ending (k : Int) : Bool := k == 5 || k == 6 || k == 7
def numbered (m : Marks) (k s : Int) : Bool :=
  if k = 8 ∨ k = 9 then !Circ.less s (swl m) else if ending k = true then Circ.within s (Circ.add m.gsr 1) (swh m) else Circ.within s (swl m) (swh m)
def acks (m : Marks) (k a : Int) : Bool := Circ.within a (if ending k = true then m.gar else awl m) (awh m)
def valid (m : Marks) (k s a : Int) : Int :=
  if Head.size k true = 0 then 7 else if numbered m k s = false then 12 else if Head.acks k = true ∧ acks m k a = false then 13 else 0
def came (m : Marks) (k s a : Int) : Marks := ⟨m.iss, m.isr, m.gss, Circ.later m.gsr s, if Head.acks k = true then Circ.later m.gar a else m.gar⟩
def sent (m : Marks) : Marks := ⟨m.iss, m.isr, Circ.add m.gss 1, m.gsr, m.gar⟩
end Go.Proofs.Ytodfcalaggfldaa.Span
