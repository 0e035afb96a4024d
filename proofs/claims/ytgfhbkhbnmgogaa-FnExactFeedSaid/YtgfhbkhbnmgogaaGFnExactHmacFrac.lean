import Derived.Test.YtgfhbkhbnmgogaaGFnExactHmacSha
namespace Go.Proofs.Ytgfhbkhbnmgogaa.GFnExactHmac.Hand
open Go.RowKit Go.Proofs.YtgfhbkhbnmgogaaW.PrintWords Go.Proofs.YtgfhbkhbnmgogaaW.PrintLast Go.Proofs.YtgfhbkhbnmgogaaW.PrintMore
set_option linter.unusedVariables false
set_option linter.unusedSimpArgs false
/-! ### impl.fraction (73), squareRoot (67), cubeRoot (70): the function that is handed in -/
/-- What fraction computes: f says whether a number is as asked. -/
def frac (f : Int → Bool) : Nat → Int → Int → Int
  | 0, r, _ => r
  | k + 1, r, bit => if bit > 0 then frac f k (if f (Go.bits .or .u64 r bit) then Go.bits .or .u64 r bit else r) (bit / 2) else r
def sqAsk (p r : Int) : Bool :=
  match bits_Mul64.f r r with
  | some (h, l) => if h < p then true else if h = p then l == 0 else false
  | none => false
def cuAsk (p r : Int) : Bool :=
  match bits_Mul64.f r r with
  | some (h, l) =>
    match bits_Mul64.f l r with
    | some (c, e) => if IntKind.u64.wrap (IntKind.u64.wrap (h * r) + c) < IntKind.u64.wrap (p * 4294967296) then true else if IntKind.u64.wrap (IntKind.u64.wrap (h * r) + c) = IntKind.u64.wrap (p * 4294967296) then e == 0 else false
    | none => false
  | none => false
def primes64 : List Int := [2, 3, 5, 7, 11, 13, 17, 19, 23, 29, 31, 37, 41, 43, 47, 53, 59, 61, 67, 71, 73, 79, 83, 89, 97, 101, 103, 107, 109, 113, 127, 131, 137, 139, 149, 151, 157, 163, 167, 173, 179, 181, 191, 193, 197, 199, 211, 223, 227, 229, 233, 239, 241, 251, 257, 263, 269, 271, 277, 281, 283, 293, 307, 311]
theorem primes_64 : impl_primes.f 400 64 = some primes64 := by decide +kernel
theorem primes_8 : impl_primes.f 400 8 = some (primes64.take 8) := by decide +kernel
theorem cube_keys : primes64.map (fun p => frac (cuAsk p) 38 0 68719476736 % 4294967296) = keysL := by decide +kernel
theorem square_start : (primes64.take 8).map (fun p => frac (sqAsk p) 38 0 68719476736 % 4294967296) = startV.l := by decide +kernel
end Go.Proofs.Ytgfhbkhbnmgogaa.GFnExactHmac.Hand
