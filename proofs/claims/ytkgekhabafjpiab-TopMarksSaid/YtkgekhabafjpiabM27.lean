/- A heartbeat as bytes: what Encode and Code say. -/
import Derived.Test.YtkgekhabafjpiabM23
import Derived.Test.YtkgekhabafjpiabM19
namespace Go.Proofs.Ytkgekhabafjpiab
open Go.RowKit Go.Lib
set_option linter.unusedSimpArgs false
set_option linter.unusedVariables false

def sadd (a b : ByteArray) : Sem Value := Op.stringOp .add a b
@[go_sem ↓] theorem sadd_veil (a b : ByteArray) : Op.stringOp .add a b = sadd a b := rfl
theorem sadd_ok {P : Program} (a b : ByteArray) (h : a.size + b.size ≤ 1000000) (w : World) : (sadd a b).run P w = .ok (.string (a ++ b)) w := run_string_add_sum w a b (by omega)
def one8 (n : Int) : ByteArray := ⟨#[u8 n]⟩
def four8 (n : Int) : ByteArray := ⟨(b4 n).toArray⟩
theorem four8_size (n : Int) : (four8 n).size = 4 := rfl
theorem one8_size (n : Int) : (one8 n).size = 1 := rfl
def chH : ByteArray := ⟨#[72]⟩
theorem chH_size : chH.size = 1 := rfl
def encS (s : ByteArray) (inc seq : Int) : ByteArray := (((chH ++ one8 s.size) ++ s) ++ four8 inc) ++ four8 seq
theorem encS_size (s : ByteArray) (inc seq : Int) : (encS s inc seq).size = 10 + s.size := by
  unfold encS
  simp only [ByteArray.size_append, four8_size, one8_size, chH_size]
  omega
def crcV (t : ByteArray) : Int := ((4294967295 - Crc.upto t t.size : Nat) : Int)
theorem crcV_bd (t : ByteArray) : 0 ≤ crcV t ∧ crcV t < 4294967296 := by unfold crcV; omega
def codeS (s : ByteArray) (inc seq : Int) : ByteArray := encS s inc seq ++ four8 (crcV (encS s inc seq))

end Go.Proofs.Ytkgekhabafjpiab
