/- What this seat's program says of its types and functions (by program). -/
import Derived.Test.YtdehpaikapbckaaBase2
import Derived.Test.YtdehpaikapbckaaProg
import Derived.KernelRfl
namespace Go.Proofs.Ytdehpaikapbckaa
open Go.Sl

instance : Ag Try.prog 1 false := ⟨fun w => by simp [isAgg, underlying, Try.underlying1]⟩
instance : Inf Try.prog 1 .nilFunc 1 8 := ⟨by kernel_rfl⟩
instance : Und Try.prog 2 (.int .i64) := ⟨Try.underlying2⟩
instance : Ag Try.prog 2 false := ⟨fun w => by simp [isAgg, underlying, Try.underlying2]⟩
instance : Inf Try.prog 2 (.int .i64 0) 1 8 := ⟨by kernel_rfl⟩
instance : Und Try.prog 3 (.int .i64) := ⟨Try.underlying3⟩
instance : Ag Try.prog 3 false := ⟨fun w => by simp [isAgg, underlying, Try.underlying3]⟩
instance : Inf Try.prog 3 (.int .i64 0) 1 8 := ⟨by kernel_rfl⟩
instance : Und Try.prog 4 .bool := ⟨Try.underlying4⟩
instance : Ag Try.prog 4 false := ⟨fun w => by simp [isAgg, underlying, Try.underlying4]⟩
instance : Inf Try.prog 4 (.bool false) 1 1 := ⟨by kernel_rfl⟩
instance : Und Try.prog 5 (.int .u8) := ⟨Try.underlying5⟩
instance : Ag Try.prog 5 false := ⟨fun w => by simp [isAgg, underlying, Try.underlying5]⟩
instance : Inf Try.prog 5 (.int .u8 0) 1 1 := ⟨by kernel_rfl⟩
instance : Ag Try.prog 7 true := ⟨fun w => by simp [isAgg, underlying, Try.underlying7]⟩
instance : Inf Try.prog 7 (.agg #[(.int .i64 0), (.int .i64 0), (.bool false), (.int .u8 0)]) 4 24 := ⟨by kernel_rfl⟩
instance : FdA Try.prog 7 0 0 := ⟨fun b o w => by kernel_rfl⟩
instance : FdA Try.prog 7 1 1 := ⟨fun b o w => by kernel_rfl⟩
instance : FdA Try.prog 7 2 2 := ⟨fun b o w => by kernel_rfl⟩
instance : FdA Try.prog 7 3 3 := ⟨fun b o w => by kernel_rfl⟩
instance : Ag Try.prog 9 false := ⟨fun w => by simp [isAgg, underlying, Try.underlying9]⟩
instance : Und Try.prog 12 (.int .u64) := ⟨Try.underlying12⟩
instance : Ag Try.prog 12 false := ⟨fun w => by simp [isAgg, underlying, Try.underlying12]⟩
instance : Inf Try.prog 12 (.int .u64 0) 1 8 := ⟨by kernel_rfl⟩
instance : Ag Try.prog 13 true := ⟨fun w => by simp [isAgg, underlying, Try.underlying13]⟩
instance : FdA Try.prog 13 0 0 := ⟨fun b o w => by kernel_rfl⟩
instance : FdA Try.prog 13 1 1 := ⟨fun b o w => by kernel_rfl⟩
instance : Ag Try.prog 18 true := ⟨fun w => by simp [isAgg, underlying, Try.underlying18]⟩
instance : Inf Try.prog 18 (.agg #[(.pointer none)]) 1 8 := ⟨by kernel_rfl⟩
instance : FdA Try.prog 18 0 0 := ⟨fun b o w => by kernel_rfl⟩
instance : Ag Try.prog 20 false := ⟨fun w => by simp [isAgg, underlying, Try.underlying20]⟩
instance : Inf Try.prog 20 .nilIface 1 16 := ⟨by kernel_rfl⟩
instance : Und Try.prog 21 (.int .i32) := ⟨Try.underlying21⟩
instance : Ag Try.prog 21 false := ⟨fun w => by simp [isAgg, underlying, Try.underlying21]⟩
instance : Inf Try.prog 21 (.int .i32 0) 1 4 := ⟨by kernel_rfl⟩
instance : Und Try.prog 22 (.slice 53) := ⟨Try.underlying22⟩
instance : Ag Try.prog 22 false := ⟨fun w => by simp [isAgg, underlying, Try.underlying22]⟩
instance : Inf Try.prog 22 (.slice none 0 0) 1 24 := ⟨by kernel_rfl⟩
instance : Und Try.prog 23 (.slice 3) := ⟨Try.underlying23⟩
instance : Ag Try.prog 23 false := ⟨fun w => by simp [isAgg, underlying, Try.underlying23]⟩
instance : Inf Try.prog 23 (.slice none 0 0) 1 24 := ⟨by kernel_rfl⟩
instance : Ag Try.prog 24 false := ⟨fun w => by simp [isAgg, underlying, Try.underlying24]⟩
instance : Inf Try.prog 24 .nilFunc 1 8 := ⟨by kernel_rfl⟩
instance : Ag Try.prog 25 false := ⟨fun w => by simp [isAgg, underlying, Try.underlying25]⟩
instance : Inf Try.prog 25 .nilFunc 1 8 := ⟨by kernel_rfl⟩
instance : Und Try.prog 26 (.slice 23) := ⟨Try.underlying26⟩
instance : Ag Try.prog 26 false := ⟨fun w => by simp [isAgg, underlying, Try.underlying26]⟩
instance : Inf Try.prog 26 (.slice none 0 0) 1 24 := ⟨by kernel_rfl⟩
instance : Und Try.prog 27 (.int .i64) := ⟨Try.underlying27⟩
instance : Ag Try.prog 27 false := ⟨fun w => by simp [isAgg, underlying, Try.underlying27]⟩
instance : Inf Try.prog 27 (.int .i64 0) 1 8 := ⟨by kernel_rfl⟩
instance : Ag Try.prog 29 false := ⟨fun w => by simp [isAgg, underlying, Try.underlying29]⟩
instance : Inf Try.prog 29 .nilFunc 1 8 := ⟨by kernel_rfl⟩
instance : Ag Try.prog 31 false := ⟨fun w => by simp [isAgg, underlying, Try.underlying31]⟩
instance : Inf Try.prog 31 .nilFunc 1 8 := ⟨by kernel_rfl⟩
instance : Ag Try.prog 32 false := ⟨fun w => by simp [isAgg, underlying, Try.underlying32]⟩
instance : Inf Try.prog 32 .nilFunc 1 8 := ⟨by kernel_rfl⟩
instance : Ag Try.prog 33 false := ⟨fun w => by simp [isAgg, underlying, Try.underlying33]⟩
instance : Inf Try.prog 33 .nilFunc 1 8 := ⟨by kernel_rfl⟩
instance : Ag Try.prog 34 false := ⟨fun w => by simp [isAgg, underlying, Try.underlying34]⟩
instance : Inf Try.prog 34 .nilFunc 1 8 := ⟨by kernel_rfl⟩
instance : Ag Try.prog 35 false := ⟨fun w => by simp [isAgg, underlying, Try.underlying35]⟩
instance : Inf Try.prog 35 .nilFunc 1 8 := ⟨by kernel_rfl⟩
instance : Und Try.prog 36 (.slice 96) := ⟨Try.underlying36⟩
instance : Ag Try.prog 36 false := ⟨fun w => by simp [isAgg, underlying, Try.underlying36]⟩
instance : Inf Try.prog 36 (.slice none 0 0) 1 24 := ⟨by kernel_rfl⟩
instance : Ag Try.prog 37 false := ⟨fun w => by simp [isAgg, underlying, Try.underlying37]⟩
instance : Inf Try.prog 37 .nilFunc 1 8 := ⟨by kernel_rfl⟩
instance : Und Try.prog 38 (.slice 42) := ⟨Try.underlying38⟩
instance : Ag Try.prog 38 false := ⟨fun w => by simp [isAgg, underlying, Try.underlying38]⟩
instance : Inf Try.prog 38 (.slice none 0 0) 1 24 := ⟨by kernel_rfl⟩
instance : Ag Try.prog 40 false := ⟨fun w => by simp [isAgg, underlying, Try.underlying40]⟩
instance : Inf Try.prog 40 .nilFunc 1 8 := ⟨by kernel_rfl⟩
instance : Und Try.prog 41 (.map 3 4) := ⟨Try.underlying41⟩
instance : Ag Try.prog 41 false := ⟨fun w => by simp [isAgg, underlying, Try.underlying41]⟩
instance : Inf Try.prog 41 (.map none) 1 8 := ⟨by kernel_rfl⟩
instance : Und Try.prog 42 (.slice 4) := ⟨Try.underlying42⟩
instance : Ag Try.prog 42 false := ⟨fun w => by simp [isAgg, underlying, Try.underlying42]⟩
instance : Inf Try.prog 42 (.slice none 0 0) 1 24 := ⟨by kernel_rfl⟩
instance : Ag Try.prog 43 false := ⟨fun w => by simp [isAgg, underlying, Try.underlying43]⟩
instance : Inf Try.prog 43 .nilFunc 1 8 := ⟨by kernel_rfl⟩
instance : Ag Try.prog 44 false := ⟨fun w => by simp [isAgg, underlying, Try.underlying44]⟩
instance : Inf Try.prog 44 .nilFunc 1 8 := ⟨by kernel_rfl⟩
instance : Und Try.prog 45 (.slice 5) := ⟨Try.underlying45⟩
instance : Ag Try.prog 45 false := ⟨fun w => by simp [isAgg, underlying, Try.underlying45]⟩
instance : Inf Try.prog 45 (.slice none 0 0) 1 24 := ⟨by kernel_rfl⟩
instance : Ag Try.prog 46 false := ⟨fun w => by simp [isAgg, underlying, Try.underlying46]⟩
instance : Inf Try.prog 46 .nilFunc 1 8 := ⟨by kernel_rfl⟩
instance : Und Try.prog 47 (.slice 142) := ⟨Try.underlying47⟩
instance : Ag Try.prog 47 false := ⟨fun w => by simp [isAgg, underlying, Try.underlying47]⟩
instance : Inf Try.prog 47 (.slice none 0 0) 1 24 := ⟨by kernel_rfl⟩
instance : Und Try.prog 48 (.slice 55) := ⟨Try.underlying48⟩
instance : Ag Try.prog 48 false := ⟨fun w => by simp [isAgg, underlying, Try.underlying48]⟩
instance : Inf Try.prog 48 (.slice none 0 0) 1 24 := ⟨by kernel_rfl⟩
instance : Und Try.prog 49 (.slice 145) := ⟨Try.underlying49⟩
instance : Ag Try.prog 49 false := ⟨fun w => by simp [isAgg, underlying, Try.underlying49]⟩
instance : Inf Try.prog 49 (.slice none 0 0) 1 24 := ⟨by kernel_rfl⟩
instance : Ag Try.prog 50 true := ⟨fun w => by simp [isAgg, underlying, Try.underlying50]⟩
instance : Inf Try.prog 50 (.agg #[(.slice none 0 0), (.slice none 0 0), (.slice none 0 0)]) 3 72 := ⟨by kernel_rfl⟩
instance : FdA Try.prog 50 0 0 := ⟨fun b o w => by kernel_rfl⟩
instance : FdA Try.prog 50 1 1 := ⟨fun b o w => by kernel_rfl⟩
instance : FdA Try.prog 50 2 2 := ⟨fun b o w => by kernel_rfl⟩
instance : Ag Try.prog 51 true := ⟨fun w => by simp [isAgg, underlying, Try.underlying51]⟩
instance : Inf Try.prog 51 (.agg #[(.slice none 0 0), (.slice none 0 0), (.slice none 0 0)]) 3 72 := ⟨by kernel_rfl⟩
instance : FdA Try.prog 51 0 0 := ⟨fun b o w => by kernel_rfl⟩
instance : FdA Try.prog 51 1 1 := ⟨fun b o w => by kernel_rfl⟩
instance : FdA Try.prog 51 2 2 := ⟨fun b o w => by kernel_rfl⟩
instance : Ag Try.prog 52 true := ⟨fun w => by simp [isAgg, underlying, Try.underlying52]⟩
instance : Inf Try.prog 52 (.agg #[(.int .i64 0), (.slice none 0 0), (.slice none 0 0), (.slice none 0 0)]) 4 80 := ⟨by kernel_rfl⟩
instance : FdA Try.prog 52 0 0 := ⟨fun b o w => by kernel_rfl⟩
instance : FdA Try.prog 52 1 1 := ⟨fun b o w => by kernel_rfl⟩
instance : Ag Try.prog 53 true := ⟨fun w => by simp [isAgg, underlying, Try.underlying53]⟩
instance : Inf Try.prog 53 (.agg #[(.int .i64 0), (.slice none 0 0), (.slice none 0 0), (.slice none 0 0)]) 4 80 := ⟨by kernel_rfl⟩
instance : FdA Try.prog 53 0 0 := ⟨fun b o w => by kernel_rfl⟩
instance : FdA Try.prog 53 1 1 := ⟨fun b o w => by kernel_rfl⟩
instance : Ag Try.prog 54 true := ⟨fun w => by simp [isAgg, underlying, Try.underlying54]⟩
instance : Inf Try.prog 54 (.agg #[(.int .i64 0), (.bool false), (.slice none 0 0)]) 3 40 := ⟨by kernel_rfl⟩
instance : FdA Try.prog 54 0 0 := ⟨fun b o w => by kernel_rfl⟩
instance : FdA Try.prog 54 1 1 := ⟨fun b o w => by kernel_rfl⟩
instance : FdA Try.prog 54 2 2 := ⟨fun b o w => by kernel_rfl⟩
instance : Ag Try.prog 55 true := ⟨fun w => by simp [isAgg, underlying, Try.underlying55]⟩
instance : Inf Try.prog 55 (.agg #[(.int .i64 0), (.bool false), (.slice none 0 0)]) 3 40 := ⟨by kernel_rfl⟩
instance : FdA Try.prog 55 0 0 := ⟨fun b o w => by kernel_rfl⟩
instance : FdA Try.prog 55 1 1 := ⟨fun b o w => by kernel_rfl⟩
instance : FdA Try.prog 55 2 2 := ⟨fun b o w => by kernel_rfl⟩
instance : Ag Try.prog 56 false := ⟨fun w => by simp [isAgg, underlying, Try.underlying56]⟩
instance : Inf Try.prog 56 .nilFunc 1 8 := ⟨by kernel_rfl⟩
instance : Ag Try.prog 57 false := ⟨fun w => by simp [isAgg, underlying, Try.underlying57]⟩
instance : Inf Try.prog 57 .nilFunc 1 8 := ⟨by kernel_rfl⟩
instance : Und Try.prog 58 (.pointer 27) := ⟨Try.underlying58⟩
instance : Ag Try.prog 58 false := ⟨fun w => by simp [isAgg, underlying, Try.underlying58]⟩
instance : Inf Try.prog 58 (.pointer none) 1 8 := ⟨by kernel_rfl⟩
instance : Und Try.prog 59 (.pointer 84) := ⟨Try.underlying59⟩
instance : Ag Try.prog 59 false := ⟨fun w => by simp [isAgg, underlying, Try.underlying59]⟩
instance : Inf Try.prog 59 (.pointer none) 1 8 := ⟨by kernel_rfl⟩
instance : Ag Try.prog 60 false := ⟨fun w => by simp [isAgg, underlying, Try.underlying60]⟩
instance : Inf Try.prog 60 .nilFunc 1 8 := ⟨by kernel_rfl⟩
instance : Ag Try.prog 61 false := ⟨fun w => by simp [isAgg, underlying, Try.underlying61]⟩
instance : Inf Try.prog 61 .nilFunc 1 8 := ⟨by kernel_rfl⟩
instance : Ag Try.prog 62 false := ⟨fun w => by simp [isAgg, underlying, Try.underlying62]⟩
instance : Inf Try.prog 62 .nilFunc 1 8 := ⟨by kernel_rfl⟩
instance : Ag Try.prog 63 false := ⟨fun w => by simp [isAgg, underlying, Try.underlying63]⟩
instance : Inf Try.prog 63 .nilFunc 1 8 := ⟨by kernel_rfl⟩
instance : Ag Try.prog 64 false := ⟨fun w => by simp [isAgg, underlying, Try.underlying64]⟩
instance : Inf Try.prog 64 .nilFunc 1 8 := ⟨by kernel_rfl⟩
instance : Ag Try.prog 65 false := ⟨fun w => by simp [isAgg, underlying, Try.underlying65]⟩
instance : Inf Try.prog 65 .nilFunc 1 8 := ⟨by kernel_rfl⟩
instance : Ag Try.prog 66 false := ⟨fun w => by simp [isAgg, underlying, Try.underlying66]⟩
instance : Inf Try.prog 66 .nilFunc 1 8 := ⟨by kernel_rfl⟩
instance : Ag Try.prog 67 false := ⟨fun w => by simp [isAgg, underlying, Try.underlying67]⟩
instance : Inf Try.prog 67 .nilFunc 1 8 := ⟨by kernel_rfl⟩
instance : Ag Try.prog 68 false := ⟨fun w => by simp [isAgg, underlying, Try.underlying68]⟩
instance : Inf Try.prog 68 .nilFunc 1 8 := ⟨by kernel_rfl⟩
instance : Ag Try.prog 69 false := ⟨fun w => by simp [isAgg, underlying, Try.underlying69]⟩
instance : Inf Try.prog 69 .nilFunc 1 8 := ⟨by kernel_rfl⟩
instance : Ag Try.prog 70 false := ⟨fun w => by simp [isAgg, underlying, Try.underlying70]⟩
instance : Inf Try.prog 70 .nilFunc 1 8 := ⟨by kernel_rfl⟩
instance : Ag Try.prog 71 true := ⟨fun w => by simp [isAgg, underlying, Try.underlying71]⟩
instance : Inf Try.prog 71 (.agg #[.nilFunc]) 1 8 := ⟨by kernel_rfl⟩
instance : FdA Try.prog 71 0 0 := ⟨fun b o w => by kernel_rfl⟩
instance : Ag Try.prog 72 true := ⟨fun w => by simp [isAgg, underlying, Try.underlying72]⟩
instance : Inf Try.prog 72 (.agg #[.nilFunc]) 1 8 := ⟨by kernel_rfl⟩
instance : FdA Try.prog 72 0 0 := ⟨fun b o w => by kernel_rfl⟩
instance : Und Try.prog 73 (.array 2 72) := ⟨Try.underlying73⟩
instance : Ag Try.prog 73 true := ⟨fun w => by simp [isAgg, underlying, Try.underlying73]⟩
instance : Inf Try.prog 73 (.agg #[.nilFunc, .nilFunc]) 2 16 := ⟨by kernel_rfl⟩
instance : Ag Try.prog 74 false := ⟨fun w => by simp [isAgg, underlying, Try.underlying74]⟩
instance : Inf Try.prog 74 .nilFunc 1 8 := ⟨by kernel_rfl⟩
instance : Ag Try.prog 75 true := ⟨fun w => by simp [isAgg, underlying, Try.underlying75]⟩
instance : Inf Try.prog 75 (.agg #[(.int .i64 0), (.int .i64 0)]) 2 16 := ⟨by kernel_rfl⟩
instance : FdA Try.prog 75 0 0 := ⟨fun b o w => by kernel_rfl⟩
instance : FdA Try.prog 75 1 1 := ⟨fun b o w => by kernel_rfl⟩
instance : Ag Try.prog 76 true := ⟨fun w => by simp [isAgg, underlying, Try.underlying76]⟩
instance : Inf Try.prog 76 (.agg #[(.int .i64 0), (.int .i64 0)]) 2 16 := ⟨by kernel_rfl⟩
instance : FdA Try.prog 76 0 0 := ⟨fun b o w => by kernel_rfl⟩
instance : FdA Try.prog 76 1 1 := ⟨fun b o w => by kernel_rfl⟩
instance : Ag Try.prog 77 false := ⟨fun w => by simp [isAgg, underlying, Try.underlying77]⟩
instance : Inf Try.prog 77 .nilFunc 1 8 := ⟨by kernel_rfl⟩
instance : Ag Try.prog 78 false := ⟨fun w => by simp [isAgg, underlying, Try.underlying78]⟩
instance : Inf Try.prog 78 .nilFunc 1 8 := ⟨by kernel_rfl⟩
instance : Ag Try.prog 79 false := ⟨fun w => by simp [isAgg, underlying, Try.underlying79]⟩
instance : Inf Try.prog 79 .nilFunc 1 8 := ⟨by kernel_rfl⟩
instance : Ag Try.prog 80 false := ⟨fun w => by simp [isAgg, underlying, Try.underlying80]⟩
instance : Inf Try.prog 80 .nilFunc 1 8 := ⟨by kernel_rfl⟩
instance : Ag Try.prog 81 false := ⟨fun w => by simp [isAgg, underlying, Try.underlying81]⟩
instance : Inf Try.prog 81 .nilFunc 1 8 := ⟨by kernel_rfl⟩
instance : Und Try.prog 82 (.map 76 4) := ⟨Try.underlying82⟩
instance : Ag Try.prog 82 false := ⟨fun w => by simp [isAgg, underlying, Try.underlying82]⟩
instance : Inf Try.prog 82 (.map none) 1 8 := ⟨by kernel_rfl⟩
instance : Ag Try.prog 83 true := ⟨fun w => by simp [isAgg, underlying, Try.underlying83]⟩
instance : Inf Try.prog 83 (.agg #[(.int .i64 0), (.map none)]) 2 16 := ⟨by kernel_rfl⟩
instance : FdA Try.prog 83 0 0 := ⟨fun b o w => by kernel_rfl⟩
instance : FdA Try.prog 83 1 1 := ⟨fun b o w => by kernel_rfl⟩
instance : Ag Try.prog 84 true := ⟨fun w => by simp [isAgg, underlying, Try.underlying84]⟩
instance : Inf Try.prog 84 (.agg #[(.int .i64 0), (.map none)]) 2 16 := ⟨by kernel_rfl⟩
instance : FdA Try.prog 84 0 0 := ⟨fun b o w => by kernel_rfl⟩
instance : FdA Try.prog 84 1 1 := ⟨fun b o w => by kernel_rfl⟩
instance : Ag Try.prog 85 false := ⟨fun w => by simp [isAgg, underlying, Try.underlying85]⟩
instance : Inf Try.prog 85 .nilFunc 1 8 := ⟨by kernel_rfl⟩
instance : Ag Try.prog 86 true := ⟨fun w => by simp [isAgg, underlying, Try.underlying86]⟩
instance : Inf Try.prog 86 (.agg #[(.int .i64 0)]) 1 8 := ⟨by kernel_rfl⟩
instance : FdA Try.prog 86 0 0 := ⟨fun b o w => by kernel_rfl⟩
instance : Ag Try.prog 87 true := ⟨fun w => by simp [isAgg, underlying, Try.underlying87]⟩
instance : Inf Try.prog 87 (.agg #[(.int .i64 0)]) 1 8 := ⟨by kernel_rfl⟩
instance : FdA Try.prog 87 0 0 := ⟨fun b o w => by kernel_rfl⟩
instance : Ag Try.prog 88 false := ⟨fun w => by simp [isAgg, underlying, Try.underlying88]⟩
instance : Inf Try.prog 88 .nilFunc 1 8 := ⟨by kernel_rfl⟩
instance : Und Try.prog 89 (.array 48 4) := ⟨Try.underlying89⟩
instance : Ag Try.prog 89 true := ⟨fun w => by simp [isAgg, underlying, Try.underlying89]⟩
instance : Inf Try.prog 89 (.agg #[(.bool false), (.bool false), (.bool false), (.bool false), (.bool false), (.bool false), (.bool false), (.bool false), (.bool false), (.bool false), (.bool false), (.bool false), (.bool false), (.bool false), (.bool false), (.bool false), (.bool false), (.bool false), (.bool false), (.bool false), (.bool false), (.bool false), (.bool false), (.bool false), (.bool false), (.bool false), (.bool false), (.bool false), (.bool false), (.bool false), (.bool false), (.bool false), (.bool false), (.bool false), (.bool false), (.bool false), (.bool false), (.bool false), (.bool false), (.bool false), (.bool false), (.bool false), (.bool false), (.bool false), (.bool false), (.bool false), (.bool false), (.bool false)]) 48 48 := ⟨by kernel_rfl⟩
instance : Und Try.prog 90 (.array 48 89) := ⟨Try.underlying90⟩
instance : Ag Try.prog 90 true := ⟨fun w => by simp [isAgg, underlying, Try.underlying90]⟩
instance : Inf Try.prog 90 (.agg (Array.replicate 2304 (.bool false))) 2304 2304 := ⟨by kernel_rfl⟩
instance : Ag Try.prog 91 false := ⟨fun w => by simp [isAgg, underlying, Try.underlying91]⟩
instance : Inf Try.prog 91 .nilFunc 1 8 := ⟨by kernel_rfl⟩
instance : Ag Try.prog 92 false := ⟨fun w => by simp [isAgg, underlying, Try.underlying92]⟩
instance : Inf Try.prog 92 .nilFunc 1 8 := ⟨by kernel_rfl⟩
instance : Ag Try.prog 93 false := ⟨fun w => by simp [isAgg, underlying, Try.underlying93]⟩
instance : Inf Try.prog 93 .nilFunc 1 8 := ⟨by kernel_rfl⟩
instance : Ag Try.prog 94 false := ⟨fun w => by simp [isAgg, underlying, Try.underlying94]⟩
instance : Inf Try.prog 94 .nilFunc 1 8 := ⟨by kernel_rfl⟩
instance : Ag Try.prog 95 false := ⟨fun w => by simp [isAgg, underlying, Try.underlying95]⟩
instance : Inf Try.prog 95 .nilFunc 1 8 := ⟨by kernel_rfl⟩
instance : Und Try.prog 96 (.int .u16) := ⟨Try.underlying96⟩
instance : Ag Try.prog 96 false := ⟨fun w => by simp [isAgg, underlying, Try.underlying96]⟩
instance : Inf Try.prog 96 (.int .u16 0) 1 2 := ⟨by kernel_rfl⟩
instance : Ag Try.prog 97 false := ⟨fun w => by simp [isAgg, underlying, Try.underlying97]⟩
instance : Inf Try.prog 97 .nilFunc 1 8 := ⟨by kernel_rfl⟩
instance : Und Try.prog 98 (.int .u64) := ⟨Try.underlying98⟩
instance : Ag Try.prog 98 false := ⟨fun w => by simp [isAgg, underlying, Try.underlying98]⟩
instance : Inf Try.prog 98 (.int .u64 0) 1 8 := ⟨by kernel_rfl⟩
instance : Ag Try.prog 99 true := ⟨fun w => by simp [isAgg, underlying, Try.underlying99]⟩
instance : Inf Try.prog 99 (.agg #[(.int .i64 0)]) 1 8 := ⟨by kernel_rfl⟩
instance : FdA Try.prog 99 0 0 := ⟨fun b o w => by kernel_rfl⟩
instance : Ag Try.prog 100 true := ⟨fun w => by simp [isAgg, underlying, Try.underlying100]⟩
instance : Inf Try.prog 100 (.agg #[(.int .i64 0)]) 1 8 := ⟨by kernel_rfl⟩
instance : FdA Try.prog 100 0 0 := ⟨fun b o w => by kernel_rfl⟩
instance : Ag Try.prog 102 true := ⟨fun w => by simp [isAgg, underlying, Try.underlying102]⟩
instance : Inf Try.prog 102 (.agg #[(.int .i64 0), (.slice none 0 0)]) 2 32 := ⟨by kernel_rfl⟩
instance : FdA Try.prog 102 0 0 := ⟨fun b o w => by kernel_rfl⟩
instance : FdA Try.prog 102 1 1 := ⟨fun b o w => by kernel_rfl⟩
instance : Ag Try.prog 103 true := ⟨fun w => by simp [isAgg, underlying, Try.underlying103]⟩
instance : Inf Try.prog 103 (.agg #[(.int .i64 0), (.slice none 0 0)]) 2 32 := ⟨by kernel_rfl⟩
instance : FdA Try.prog 103 0 0 := ⟨fun b o w => by kernel_rfl⟩
instance : FdA Try.prog 103 1 1 := ⟨fun b o w => by kernel_rfl⟩
instance : Ag Try.prog 104 false := ⟨fun w => by simp [isAgg, underlying, Try.underlying104]⟩
instance : Inf Try.prog 104 .nilIface 1 16 := ⟨by kernel_rfl⟩
instance : Ag Try.prog 105 false := ⟨fun w => by simp [isAgg, underlying, Try.underlying105]⟩
instance : Inf Try.prog 105 .nilIface 1 16 := ⟨by kernel_rfl⟩
instance : Ag Try.prog 106 false := ⟨fun w => by simp [isAgg, underlying, Try.underlying106]⟩
instance : Inf Try.prog 106 .nilFunc 1 8 := ⟨by kernel_rfl⟩
instance : Ag Try.prog 107 false := ⟨fun w => by simp [isAgg, underlying, Try.underlying107]⟩
instance : Inf Try.prog 107 .nilFunc 1 8 := ⟨by kernel_rfl⟩
instance : Ag Try.prog 108 false := ⟨fun w => by simp [isAgg, underlying, Try.underlying108]⟩
instance : Inf Try.prog 108 .nilFunc 1 8 := ⟨by kernel_rfl⟩
instance : Ag Try.prog 109 false := ⟨fun w => by simp [isAgg, underlying, Try.underlying109]⟩
instance : Inf Try.prog 109 .nilFunc 1 8 := ⟨by kernel_rfl⟩
instance : Ag Try.prog 110 false := ⟨fun w => by simp [isAgg, underlying, Try.underlying110]⟩
instance : Inf Try.prog 110 .nilFunc 1 8 := ⟨by kernel_rfl⟩
instance : Ag Try.prog 111 false := ⟨fun w => by simp [isAgg, underlying, Try.underlying111]⟩
instance : Inf Try.prog 111 .nilFunc 1 8 := ⟨by kernel_rfl⟩
instance : Ag Try.prog 112 false := ⟨fun w => by simp [isAgg, underlying, Try.underlying112]⟩
instance : Inf Try.prog 112 .nilFunc 1 8 := ⟨by kernel_rfl⟩
instance : Ag Try.prog 113 false := ⟨fun w => by simp [isAgg, underlying, Try.underlying113]⟩
instance : Inf Try.prog 113 .nilFunc 1 8 := ⟨by kernel_rfl⟩
instance : Ag Try.prog 116 false := ⟨fun w => by simp [isAgg, underlying, Try.underlying116]⟩
instance : Inf Try.prog 116 .nilFunc 1 8 := ⟨by kernel_rfl⟩
instance : Und Try.prog 117 (.int .u32) := ⟨Try.underlying117⟩
instance : Ag Try.prog 117 false := ⟨fun w => by simp [isAgg, underlying, Try.underlying117]⟩
instance : Inf Try.prog 117 (.int .u32 0) 1 4 := ⟨by kernel_rfl⟩
instance : Ag Try.prog 119 false := ⟨fun w => by simp [isAgg, underlying, Try.underlying119]⟩
instance : Inf Try.prog 119 .nilFunc 1 8 := ⟨by kernel_rfl⟩
instance : Und Try.prog 120 (.int .u64) := ⟨Try.underlying120⟩
instance : Ag Try.prog 120 false := ⟨fun w => by simp [isAgg, underlying, Try.underlying120]⟩
instance : Inf Try.prog 120 (.int .u64 0) 1 8 := ⟨by kernel_rfl⟩
instance : Ag Try.prog 122 false := ⟨fun w => by simp [isAgg, underlying, Try.underlying122]⟩
instance : Inf Try.prog 122 .nilFunc 1 8 := ⟨by kernel_rfl⟩
instance : Ag Try.prog 123 false := ⟨fun w => by simp [isAgg, underlying, Try.underlying123]⟩
instance : Inf Try.prog 123 .nilFunc 1 8 := ⟨by kernel_rfl⟩
instance : Ag Try.prog 124 true := ⟨fun w => by simp [isAgg, underlying, Try.underlying124]⟩
instance : FdA Try.prog 124 0 0 := ⟨fun b o w => by kernel_rfl⟩
instance : FdA Try.prog 124 1 1 := ⟨fun b o w => by kernel_rfl⟩
instance : FdA Try.prog 124 2 2 := ⟨fun b o w => by kernel_rfl⟩
instance : FdA Try.prog 124 3 3 := ⟨fun b o w => by kernel_rfl⟩
instance : Und Try.prog 126 (.array 0 16) := ⟨Try.underlying126⟩
instance : Ag Try.prog 126 true := ⟨fun w => by simp [isAgg, underlying, Try.underlying126]⟩
instance : Inf Try.prog 126 (.agg #[]) 0 0 := ⟨by kernel_rfl⟩
instance : Ag Try.prog 127 true := ⟨fun w => by simp [isAgg, underlying, Try.underlying127]⟩
instance : Inf Try.prog 127 (.agg #[]) 0 0 := ⟨by kernel_rfl⟩
instance : Ag Try.prog 129 false := ⟨fun w => by simp [isAgg, underlying, Try.underlying129]⟩
instance : Inf Try.prog 129 .nilFunc 1 8 := ⟨by kernel_rfl⟩
instance : Ag Try.prog 132 false := ⟨fun w => by simp [isAgg, underlying, Try.underlying132]⟩
instance : Inf Try.prog 132 .nilFunc 1 8 := ⟨by kernel_rfl⟩
instance : Und Try.prog 133 (.pointer 5) := ⟨Try.underlying133⟩
instance : Ag Try.prog 133 false := ⟨fun w => by simp [isAgg, underlying, Try.underlying133]⟩
instance : Inf Try.prog 133 (.pointer none) 1 8 := ⟨by kernel_rfl⟩
instance : Ag Try.prog 136 true := ⟨fun w => by simp [isAgg, underlying, Try.underlying136]⟩
instance : Inf Try.prog 136 (.agg #[(.int .u64 0), (.int .u64 0), (.int .u32 0), (.int .u8 0), (.int .u8 0), (.int .u8 0), (.int .u8 0), .nilFunc, (.pointer none), (.int .i32 0), (.int .i32 0)]) 11 48 := ⟨by kernel_rfl⟩
instance : FdA Try.prog 136 0 0 := ⟨fun b o w => by kernel_rfl⟩
instance : FdA Try.prog 136 1 1 := ⟨fun b o w => by kernel_rfl⟩
instance : FdA Try.prog 136 2 2 := ⟨fun b o w => by kernel_rfl⟩
instance : FdA Try.prog 136 3 3 := ⟨fun b o w => by kernel_rfl⟩
instance : FdA Try.prog 136 4 4 := ⟨fun b o w => by kernel_rfl⟩
instance : FdA Try.prog 136 5 5 := ⟨fun b o w => by kernel_rfl⟩
instance : FdA Try.prog 136 6 6 := ⟨fun b o w => by kernel_rfl⟩
instance : FdA Try.prog 136 7 7 := ⟨fun b o w => by kernel_rfl⟩
instance : FdA Try.prog 136 8 8 := ⟨fun b o w => by kernel_rfl⟩
instance : FdA Try.prog 136 9 9 := ⟨fun b o w => by kernel_rfl⟩
instance : FdA Try.prog 136 10 10 := ⟨fun b o w => by kernel_rfl⟩
instance : Und Try.prog 138 (.slice 140) := ⟨Try.underlying138⟩
instance : Ag Try.prog 138 false := ⟨fun w => by simp [isAgg, underlying, Try.underlying138]⟩
instance : Inf Try.prog 138 (.slice none 0 0) 1 24 := ⟨by kernel_rfl⟩
instance : Ag Try.prog 139 true := ⟨fun w => by simp [isAgg, underlying, Try.underlying139]⟩
instance : FdA Try.prog 139 0 0 := ⟨fun b o w => by kernel_rfl⟩
instance : FdA Try.prog 139 1 1 := ⟨fun b o w => by kernel_rfl⟩
instance : FdA Try.prog 139 2 2 := ⟨fun b o w => by kernel_rfl⟩
instance : FdA Try.prog 139 3 3 := ⟨fun b o w => by kernel_rfl⟩
instance : Ag Try.prog 140 true := ⟨fun w => by simp [isAgg, underlying, Try.underlying140]⟩
instance : FdA Try.prog 140 0 0 := ⟨fun b o w => by kernel_rfl⟩
instance : FdA Try.prog 140 1 1 := ⟨fun b o w => by kernel_rfl⟩
instance : FdA Try.prog 140 2 2 := ⟨fun b o w => by kernel_rfl⟩
instance : FdA Try.prog 140 3 3 := ⟨fun b o w => by kernel_rfl⟩
instance : Ag Try.prog 141 true := ⟨fun w => by simp [isAgg, underlying, Try.underlying141]⟩
instance : FdA Try.prog 141 0 0 := ⟨fun b o w => by kernel_rfl⟩
instance : FdA Try.prog 141 1 1 := ⟨fun b o w => by kernel_rfl⟩
instance : Ag Try.prog 142 true := ⟨fun w => by simp [isAgg, underlying, Try.underlying142]⟩
instance : FdA Try.prog 142 0 0 := ⟨fun b o w => by kernel_rfl⟩
instance : FdA Try.prog 142 1 1 := ⟨fun b o w => by kernel_rfl⟩
instance : Und Try.prog 143 (.slice 148) := ⟨Try.underlying143⟩
instance : Ag Try.prog 143 false := ⟨fun w => by simp [isAgg, underlying, Try.underlying143]⟩
instance : Inf Try.prog 143 (.slice none 0 0) 1 24 := ⟨by kernel_rfl⟩
instance : Ag Try.prog 144 true := ⟨fun w => by simp [isAgg, underlying, Try.underlying144]⟩
instance : FdA Try.prog 144 0 0 := ⟨fun b o w => by kernel_rfl⟩
instance : FdA Try.prog 144 1 1 := ⟨fun b o w => by kernel_rfl⟩
instance : FdA Try.prog 144 2 2 := ⟨fun b o w => by kernel_rfl⟩
instance : FdA Try.prog 144 3 3 := ⟨fun b o w => by kernel_rfl⟩
instance : FdA Try.prog 144 4 4 := ⟨fun b o w => by kernel_rfl⟩
instance : Ag Try.prog 145 true := ⟨fun w => by simp [isAgg, underlying, Try.underlying145]⟩
instance : FdA Try.prog 145 0 0 := ⟨fun b o w => by kernel_rfl⟩
instance : FdA Try.prog 145 1 1 := ⟨fun b o w => by kernel_rfl⟩
instance : FdA Try.prog 145 2 2 := ⟨fun b o w => by kernel_rfl⟩
instance : FdA Try.prog 145 3 3 := ⟨fun b o w => by kernel_rfl⟩
instance : FdA Try.prog 145 4 4 := ⟨fun b o w => by kernel_rfl⟩
instance : Inf Try.prog 146 (.pointer none) 1 8 := ⟨by kernel_rfl⟩
instance : Ag Try.prog 147 true := ⟨fun w => by simp [isAgg, underlying, Try.underlying147]⟩
instance : Inf Try.prog 147 (.agg #[(.int .i64 0), (.slice none 0 0)]) 2 32 := ⟨by kernel_rfl⟩
instance : FdA Try.prog 147 0 0 := ⟨fun b o w => by kernel_rfl⟩
instance : FdA Try.prog 147 1 1 := ⟨fun b o w => by kernel_rfl⟩
instance : Ag Try.prog 148 true := ⟨fun w => by simp [isAgg, underlying, Try.underlying148]⟩
instance : Inf Try.prog 148 (.agg #[(.int .i64 0), (.slice none 0 0)]) 2 32 := ⟨by kernel_rfl⟩
instance : FdA Try.prog 148 0 0 := ⟨fun b o w => by kernel_rfl⟩
instance : FdA Try.prog 148 1 1 := ⟨fun b o w => by kernel_rfl⟩
instance : Ent Try.prog 3 := ⟨fun args w => by kernel_rfl⟩
instance : Ent Try.prog 4 := ⟨fun args w => by kernel_rfl⟩
instance : Ent Try.prog 5 := ⟨fun args w => by kernel_rfl⟩
instance : Ent Try.prog 6 := ⟨fun args w => by kernel_rfl⟩
instance : Ent Try.prog 7 := ⟨fun args w => by kernel_rfl⟩
instance : Ent Try.prog 8 := ⟨fun args w => by kernel_rfl⟩
instance : Ent Try.prog 9 := ⟨fun args w => by kernel_rfl⟩
instance : Ent Try.prog 10 := ⟨fun args w => by kernel_rfl⟩
instance : Ent Try.prog 11 := ⟨fun args w => by kernel_rfl⟩
instance : Ent Try.prog 12 := ⟨fun args w => by kernel_rfl⟩
instance : Ent Try.prog 13 := ⟨fun args w => by kernel_rfl⟩
instance : Ent Try.prog 14 := ⟨fun args w => by kernel_rfl⟩
instance : Ent Try.prog 15 := ⟨fun args w => by kernel_rfl⟩
instance : Ent Try.prog 16 := ⟨fun args w => by kernel_rfl⟩
instance : Ent Try.prog 17 := ⟨fun args w => by kernel_rfl⟩
instance : Ent Try.prog 18 := ⟨fun args w => by kernel_rfl⟩
instance : Ent Try.prog 19 := ⟨fun args w => by kernel_rfl⟩
instance : Ent Try.prog 20 := ⟨fun args w => by kernel_rfl⟩
instance : Ent Try.prog 21 := ⟨fun args w => by kernel_rfl⟩
instance : Ent Try.prog 22 := ⟨fun args w => by kernel_rfl⟩
instance : Ent Try.prog 23 := ⟨fun args w => by kernel_rfl⟩
instance : Ent Try.prog 24 := ⟨fun args w => by kernel_rfl⟩
instance : Ent Try.prog 25 := ⟨fun args w => by kernel_rfl⟩
instance : Ent Try.prog 26 := ⟨fun args w => by kernel_rfl⟩
instance : Ent Try.prog 27 := ⟨fun args w => by kernel_rfl⟩
instance : Ent Try.prog 28 := ⟨fun args w => by kernel_rfl⟩
instance : Ent Try.prog 29 := ⟨fun args w => by kernel_rfl⟩
instance : Ent Try.prog 30 := ⟨fun args w => by kernel_rfl⟩
instance : Ent Try.prog 31 := ⟨fun args w => by kernel_rfl⟩
instance : Ent Try.prog 32 := ⟨fun args w => by kernel_rfl⟩
instance : Ent Try.prog 33 := ⟨fun args w => by kernel_rfl⟩
instance : Ent Try.prog 34 := ⟨fun args w => by kernel_rfl⟩
instance : Ent Try.prog 35 := ⟨fun args w => by kernel_rfl⟩
instance : Ent Try.prog 36 := ⟨fun args w => by kernel_rfl⟩
instance : Ent Try.prog 37 := ⟨fun args w => by kernel_rfl⟩
instance : Ent Try.prog 38 := ⟨fun args w => by kernel_rfl⟩
instance : Ent Try.prog 39 := ⟨fun args w => by kernel_rfl⟩
instance : Ent Try.prog 40 := ⟨fun args w => by kernel_rfl⟩
instance : Ent Try.prog 41 := ⟨fun args w => by kernel_rfl⟩
instance : Ent Try.prog 42 := ⟨fun args w => by kernel_rfl⟩
instance : Ent Try.prog 43 := ⟨fun args w => by kernel_rfl⟩
instance : Ent Try.prog 44 := ⟨fun args w => by kernel_rfl⟩
instance : Ent Try.prog 45 := ⟨fun args w => by kernel_rfl⟩
instance : Ent Try.prog 46 := ⟨fun args w => by kernel_rfl⟩
instance : Ent Try.prog 47 := ⟨fun args w => by kernel_rfl⟩
instance : Ent Try.prog 48 := ⟨fun args w => by kernel_rfl⟩
instance : Ent Try.prog 49 := ⟨fun args w => by kernel_rfl⟩
instance : Ent Try.prog 50 := ⟨fun args w => by kernel_rfl⟩
instance : Ent Try.prog 51 := ⟨fun args w => by kernel_rfl⟩
instance : Ent Try.prog 52 := ⟨fun args w => by kernel_rfl⟩
instance : Ent Try.prog 53 := ⟨fun args w => by kernel_rfl⟩
instance : Ent Try.prog 54 := ⟨fun args w => by kernel_rfl⟩
instance : Ent Try.prog 55 := ⟨fun args w => by kernel_rfl⟩
instance : Ent Try.prog 56 := ⟨fun args w => by kernel_rfl⟩
instance : Ent Try.prog 57 := ⟨fun args w => by kernel_rfl⟩
instance : Ent Try.prog 58 := ⟨fun args w => by kernel_rfl⟩
instance : Ent Try.prog 59 := ⟨fun args w => by kernel_rfl⟩
instance : Ent Try.prog 60 := ⟨fun args w => by kernel_rfl⟩
instance : Ent Try.prog 61 := ⟨fun args w => by kernel_rfl⟩
instance : Ent Try.prog 62 := ⟨fun args w => by kernel_rfl⟩
instance : Ent Try.prog 63 := ⟨fun args w => by kernel_rfl⟩
instance : Ent Try.prog 64 := ⟨fun args w => by kernel_rfl⟩
instance : Ent Try.prog 65 := ⟨fun args w => by kernel_rfl⟩
instance : Ent Try.prog 66 := ⟨fun args w => by kernel_rfl⟩
instance : Ent Try.prog 67 := ⟨fun args w => by kernel_rfl⟩
instance : Ent Try.prog 68 := ⟨fun args w => by kernel_rfl⟩
instance : Ent Try.prog 69 := ⟨fun args w => by kernel_rfl⟩
instance : Ent Try.prog 70 := ⟨fun args w => by kernel_rfl⟩
instance : Ent Try.prog 71 := ⟨fun args w => by kernel_rfl⟩
instance : Ent Try.prog 72 := ⟨fun args w => by kernel_rfl⟩
instance : Ent Try.prog 88 := ⟨fun args w => by kernel_rfl⟩
end Go.Proofs.Ytdehpaikapbckaa
