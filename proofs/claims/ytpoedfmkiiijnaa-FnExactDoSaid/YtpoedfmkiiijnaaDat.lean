/- The data of the program, as plain values, and how it lies in an abstract heap. Plain definitions and lemmas. -/
import Derived.Test.YtpoedfmkiiijnaaRep
namespace Go.Proofs.YtpoedfmkiiijnaaAm
open Go Go.RowKit
set_option linter.unusedVariables false
set_option linter.unusedSimpArgs false

structure Gr where
  ver : Int
  cel : Int
deriving DecidableEq
structure Ln where
  gone : Int
  way : List Int
  grs : List Gr
  drop : Int
deriving DecidableEq
structure Bk where
  ok : Bool
  sec : Int
  lines : List Ln
deriving DecidableEq
structure Evt where
  op : Int
  train : Int
  n : Int
deriving DecidableEq
structure Bd where
  ver : Int
  cel : Int
  tail : Int
  front : Int
deriving DecidableEq
structure Wd where
  ok : Bool
  book : Bk
  bodies : List Bd
deriving DecidableEq
structure Actn where
  op : Int
  ev : Evt
  train : Int
  n : Int
deriving DecidableEq
structure Dn where
  code : Int
  book : Bk
deriving DecidableEq
structure Mv where
  code : Int
  world : Wd
deriving DecidableEq

def cInt (x : Int) : List Value := [iv x]
def cGr (g : Gr) : List Value := [iv g.ver, iv g.cel]
def cEv (e : Evt) : List Value := [iv e.op, iv e.train, iv e.n]
def cBd (b : Bd) : List Value := [iv b.ver, iv b.cel, iv b.tail, iv b.front]
def cAc (a : Actn) : List Value := [iv a.op, iv a.ev.op, iv a.ev.train, iv a.ev.n, iv a.train, iv a.n]
abbrev vEv (e : Evt) : Value := .agg #[iv e.op, iv e.train, iv e.n]
abbrev vAc (a : Actn) : Value := .agg #[iv a.op, iv a.ev.op, iv a.ev.train, iv a.ev.n, iv a.train, iv a.n]
abbrev RInt := RP cInt
abbrev RGr := RP cGr
abbrev REv := RP cEv
abbrev RBd := RP cBd
abbrev RAc := RP cAc
/-- A line's cells; the way and the leashes own their blocks. -/
def RLn (H : Heap) (E : List Nat) (l : Ln) (cs : List Value) : Prop :=
  ∃ E1 E2 v1 v2, E = E1 ++ E2 ∧ cs = [iv l.gone, v1, v2, iv l.drop] ∧ RS 1 RInt H E1 v1 l.way ∧ RS 2 RGr H E2 v2 l.grs
theorem RLn.frm : Frm RLn := by
  refine ⟨?_, ?_⟩
  · rintro H H' E x cs ⟨E1, E2, v1, v2, rfl, h2, h3, h4⟩ ha
    exact ⟨E1, E2, v1, v2, rfl, h2, h3.fr (RP.frm _) fun id hi => ha id (by simp [hi]), h4.fr (RP.frm _) fun id hi => ha id (by simp [hi])⟩
  · rintro H E x cs ⟨E1, E2, v1, v2, rfl, h2, h3, h4⟩ id hi
    rcases List.mem_append.1 hi with hi | hi
    · exact h3.bd (RP.frm _) id hi
    · exact h4.bd (RP.frm _) id hi
/-- The cells of a book. -/
def RBk (H : Heap) (E : List Nat) (b : Bk) (cs : List Value) : Prop := ∃ v, cs = [.bool b.ok, iv b.sec, v] ∧ RS 4 RLn H E v b.lines
theorem RBk.frm : Frm RBk := by
  refine ⟨?_, ?_⟩
  · rintro H H' E x cs ⟨v, h1, h2⟩ ha
    exact ⟨v, h1, h2.fr RLn.frm ha⟩
  · rintro H E x cs ⟨v, h1, h2⟩
    exact h2.bd RLn.frm
def RDn (H : Heap) (E : List Nat) (d : Dn) (cs : List Value) : Prop := ∃ c, cs = iv d.code :: c ∧ RBk H E d.book c
theorem RDn.frm : Frm RDn := by
  refine ⟨?_, ?_⟩
  · rintro H H' E x cs ⟨v, h1, h2⟩ ha
    exact ⟨v, h1, RBk.frm.fr h2 ha⟩
  · rintro H E x cs ⟨v, h1, h2⟩
    exact RBk.frm.bd h2
def RWd (H : Heap) (E : List Nat) (w : Wd) (cs : List Value) : Prop := ∃ E1 E2 c v, E = E1 ++ E2 ∧ cs = .bool w.ok :: (c ++ [v]) ∧ RBk H E1 w.book c ∧ RS 4 RBd H E2 v w.bodies
theorem RWd.frm : Frm RWd := by
  refine ⟨?_, ?_⟩
  · rintro H H' E x cs ⟨E1, E2, c, v, rfl, h2, h3, h4⟩ ha
    exact ⟨E1, E2, c, v, rfl, h2, RBk.frm.fr h3 fun id hi => ha id (by simp [hi]), h4.fr (RP.frm _) fun id hi => ha id (by simp [hi])⟩
  · rintro H E x cs ⟨E1, E2, c, v, rfl, h2, h3, h4⟩ id hi
    rcases List.mem_append.1 hi with hi | hi
    · exact RBk.frm.bd h3 id hi
    · exact h4.bd (RP.frm _) id hi
def RMv (H : Heap) (E : List Nat) (m : Mv) (cs : List Value) : Prop := ∃ c, cs = iv m.code :: c ∧ RWd H E m.world c
theorem RMv.frm : Frm RMv := by
  refine ⟨?_, ?_⟩
  · rintro H H' E x cs ⟨v, h1, h2⟩ ha
    exact ⟨v, h1, RWd.frm.fr h2 ha⟩
  · rintro H E x cs ⟨v, h1, h2⟩
    exact RWd.frm.bd h2
end Go.Proofs.YtpoedfmkiiijnaaAm
