/- Numbers and texts as bytes: what the functions reckon, in plain Lean. -/
namespace Go.Almanac

/-- Reading a number's groups: k groups are behind, n is what they make: (number, groups, error). -/
def rdn : List UInt8 → Nat → Nat → Nat × Nat × Nat
  | [], _, _ => (0, 0, 11)
  | c :: cs, k, n =>
    if k = 9 ∧ 1 < c.toNat then (0, 0, 10)
    else if 128 ≤ c.toNat then rdn cs (k + 1) (n + c.toNat % 128 * 2 ^ (7 * k))
    else if c.toNat = 0 ∧ 0 < k then (0, 0, 10)
    else (n + c.toNat % 128 * 2 ^ (7 * k), k + 1, 0)

end Go.Almanac
