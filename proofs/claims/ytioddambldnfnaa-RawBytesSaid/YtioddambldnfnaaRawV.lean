/-
  Plain: reading a text in quotes (no program).
-/
import Derived.Test.YtioddambldnfnaaRawT
namespace Go.Proofs.Ytioddambldnfnaa.Rw

def atF (l : List UInt8) (i : Nat) : Option UInt8 :=
  match l[i]? with
  | some c => if 32 ≤ c.toNat ∧ c.toNat ≤ 126 then some c else none
  | none => none
def nibF (c : UInt8) : Option Nat :=
  if 48 ≤ c.toNat ∧ c.toNat ≤ 57 then some (c.toNat - 48)
  else if 97 ≤ c.toNat ∧ c.toNat ≤ 102 then some (c.toNat - 87)
  else if 65 ≤ c.toNat ∧ c.toNat ≤ 70 then some (c.toNat - 55)
  else none
def nibAt (l : List UInt8) (i : Nat) : Option Nat := (atF l i).bind nibF
def unqK (l : List UInt8) : Nat → Nat → List UInt8 → Option (List UInt8 × Nat)
  | 0, _, _ => none
  | f + 1, i, acc =>
    match atF l i with
    | none => none
    | some c =>
      if c = 34 then some (acc, i + 1)
      else if c = 92 then
        match atF l (i + 1) with
        | none => none
        | some d =>
          if d = 34 ∨ d = 92 then unqK l f (i + 2) (acc ++ [d])
          else if d = 120 then
            match nibAt l (i + 2), nibAt l (i + 3) with
            | some h, some k => unqK l f (i + 4) (acc ++ [UInt8.ofNat (16 * h + k)])
            | _, _ => none
          else none
      else unqK l f (i + 1) (acc ++ [c])
def unqF (l : List UInt8) : Option (List UInt8 × Nat) := if atF l 0 = some 34 then unqK l l.length 1 [] else none

theorem nibF_lt {c : UInt8} {k : Nat} (h : nibF c = some k) : k < 16 := by
  unfold nibF at h
  split at h
  · cases h; omega
  · split at h
    · cases h; omega
    · split at h
      · cases h; omega
      · cases h
end Go.Proofs.Ytioddambldnfnaa.Rw
