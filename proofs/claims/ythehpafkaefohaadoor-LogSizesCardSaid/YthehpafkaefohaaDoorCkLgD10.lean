/- Walks: Append, whole. Conditions: sizes a machine can have. -/
import Derived.Test.YthehpafkaefohaaDoorCkLgD9
namespace Go.Proofs.YthehpafkaefohaaDoor
open Go.RowKit
theorem append_any {w : World} {d : Nat} {st : DkSt} {v : Value} (h : DkAt w d st v) (ok : DkOk st) (hfu : st.fuse ≤ 1000000000000) (n : ByteArray) (hns : n.size ≤ 1000000) (u : Value) (bs : List UInt8) (hr : RdB w u bs) (hrn : ∀ k, Value.readBlock u = some k → k ∉ dkS d v) (hl : bs.length ≤ 1000000000)
    :
    Calls Tryd.prog 27 #[.pointer (some ⟨d, 0, none⟩), .string n, u] w (APost d v (dAppend st n bs) w) := by
  cases hd : st.dark with
  | true => exact append_dark h n u bs hr hd
  | false =>
    cases hn : namedB n with
    | false => exact append_noname h n hns u bs hr hd hn
    | true => exact append_named h ok hfu n hns u bs hr hrn hl hd hn
end Go.Proofs.YthehpafkaefohaaDoor
