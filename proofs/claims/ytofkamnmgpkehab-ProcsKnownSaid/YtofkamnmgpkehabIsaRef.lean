import Derived.Test.YtofkamnmgpkehabIsaRef1
import Derived.Test.YtofkamnmgpkehabIsaRef2
import Derived.Test.YtofkamnmgpkehabIsaRef3
namespace Go.Proofs.Ytofkamnmgpkehab
open Go.RowKit
theorem refinfo_yes (k : Nat) (hk : 1 ≤ k) (h2 : k ≤ 59) (w : World) :
    Calls Try.prog 53 #[.int .u8 k] w fun e w' => e = .returned (.tuple #[rowVal k, .bool true]) ∧ Below w.heap.size w w' :=
  match k, hk, h2 with
  | 0, h, _ => absurd h (by omega)
  | 1, _, _ => refinfo_1 w
  | 2, _, _ => refinfo_2 w
  | 3, _, _ => refinfo_3 w
  | 4, _, _ => refinfo_4 w
  | 5, _, _ => refinfo_5 w
  | 6, _, _ => refinfo_6 w
  | 7, _, _ => refinfo_7 w
  | 8, _, _ => refinfo_8 w
  | 9, _, _ => refinfo_9 w
  | 10, _, _ => refinfo_10 w
  | 11, _, _ => refinfo_11 w
  | 12, _, _ => refinfo_12 w
  | 13, _, _ => refinfo_13 w
  | 14, _, _ => refinfo_14 w
  | 15, _, _ => refinfo_15 w
  | 16, _, _ => refinfo_16 w
  | 17, _, _ => refinfo_17 w
  | 18, _, _ => refinfo_18 w
  | 19, _, _ => refinfo_19 w
  | 20, _, _ => refinfo_20 w
  | 21, _, _ => refinfo_21 w
  | 22, _, _ => refinfo_22 w
  | 23, _, _ => refinfo_23 w
  | 24, _, _ => refinfo_24 w
  | 25, _, _ => refinfo_25 w
  | 26, _, _ => refinfo_26 w
  | 27, _, _ => refinfo_27 w
  | 28, _, _ => refinfo_28 w
  | 29, _, _ => refinfo_29 w
  | 30, _, _ => refinfo_30 w
  | 31, _, _ => refinfo_31 w
  | 32, _, _ => refinfo_32 w
  | 33, _, _ => refinfo_33 w
  | 34, _, _ => refinfo_34 w
  | 35, _, _ => refinfo_35 w
  | 36, _, _ => refinfo_36 w
  | 37, _, _ => refinfo_37 w
  | 38, _, _ => refinfo_38 w
  | 39, _, _ => refinfo_39 w
  | 40, _, _ => refinfo_40 w
  | 41, _, _ => refinfo_41 w
  | 42, _, _ => refinfo_42 w
  | 43, _, _ => refinfo_43 w
  | 44, _, _ => refinfo_44 w
  | 45, _, _ => refinfo_45 w
  | 46, _, _ => refinfo_46 w
  | 47, _, _ => refinfo_47 w
  | 48, _, _ => refinfo_48 w
  | 49, _, _ => refinfo_49 w
  | 50, _, _ => refinfo_50 w
  | 51, _, _ => refinfo_51 w
  | 52, _, _ => refinfo_52 w
  | 53, _, _ => refinfo_53 w
  | 54, _, _ => refinfo_54 w
  | 55, _, _ => refinfo_55 w
  | 56, _, _ => refinfo_56 w
  | 57, _, _ => refinfo_57 w
  | 58, _, _ => refinfo_58 w
  | 59, _, _ => refinfo_59 w
  | n + 60, _, h => absurd h (by omega)
end Go.Proofs.Ytofkamnmgpkehab
