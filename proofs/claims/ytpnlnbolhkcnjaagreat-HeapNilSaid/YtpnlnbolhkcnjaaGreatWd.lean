
/- The words of the memory of a process, in plain Lean. -/
import Derived.Lib.Hide
namespace Go.Proofs.YtpnlnbolhkcnjaaGreat.words

def smallOk (n : Int) : Bool := decide (-576460752303423488 ≤ n ∧ n < 576460752303423488)
def smallW (n : Int) : Int := if smallOk n then 16 * (n % 1152921504606846976) + 3 else 0
def idxOk (i : Int) : Bool := decide (0 ≤ i ∧ i < 2147483648)
def atomW (i : Int) : Int := if idxOk i then 16 * i + 7 else 0
def ptrW (tag : Int) (old : Bool) (i : Int) : Int := if idxOk i then 8 * i + tag + (if old then 4 else 0) else 0
def hdOk (k n : Int) : Bool := decide (1 ≤ k ∧ k ≤ 8 ∧ 0 ≤ n ∧ n ≤ 65535)
def hdW (k n : Int) : Int := if hdOk k n then 64 * n + 4 * k else 0
def soOk (w : Int) : Bool := decide (w % 16 = 3)
def soN (w : Int) : Int := if soOk w then (if w / 16 ≥ 576460752303423488 then w / 16 - 1152921504606846976 else w / 16) else 0
def aoOk (w : Int) : Bool := decide (w % 16 = 7 ∧ w / 16 < 2147483648)
def aoN (w : Int) : Int := if aoOk w then w / 16 else 0
def pOk (w : Int) : Bool := decide ((w % 4 = 1 ∨ w % 4 = 2) ∧ w / 8 < 2147483648)
def pOld (w : Int) : Bool := pOk w && decide (w / 4 % 2 = 1)
def pIx (w : Int) : Int := if pOk w then w / 8 else 0
def hoOk (w : Int) : Bool := decide (w % 4 = 0 ∧ 1 ≤ w / 4 % 16 ∧ w / 4 % 16 ≤ 8 ∧ w / 64 ≤ 65535)
def hoK (w : Int) : Int := if hoOk w then w / 4 % 16 else 0
def hoN (w : Int) : Int := if hoOk w then w / 64 else 0
def vOk (w : Int) : Bool := soOk w || aoOk w || pOk w || hoOk w || decide (w = 11)
end Go.Proofs.YtpnlnbolhkcnjaaGreat.words
