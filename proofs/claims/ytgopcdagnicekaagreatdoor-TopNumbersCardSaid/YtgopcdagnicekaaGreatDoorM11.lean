/- Facts on the types. No condition. -/
import Derived.Test.YtgopcdagnicekaaGreatDoorM1
import Derived.Test.YtgopcdagnicekaaGreatDoorM10

set_option linter.unusedVariables false
set_option linter.unusedSimpArgs false
set_option linter.all false
namespace Go.Proofs.YtgopcdagnicekaaGreatDoor
open Go.RowKit
set_option maxRecDepth 100000
theorem fh:jx Tryz.prog 2:=⟨⟨_,Tryz.underlying2,rfl⟩,by kernel_rfl⟩
theorem pA:∃i,Tryz.prog.info? 2=some i/\i.zero=some (.int .i64 0):=⟨_,rfl,rfl⟩
theorem aD:jx Tryz.prog 3:=⟨⟨_,Tryz.underlying3,rfl⟩,by kernel_rfl⟩
theorem dc:∃i,Tryz.prog.info? 3=some i/\i.zero=some (.int .i64 0):=⟨_,rfl,rfl⟩
theorem bQ:jx Tryz.prog 4:=⟨⟨_,Tryz.underlying4,rfl⟩,by kernel_rfl⟩
theorem BV:∃i,Tryz.prog.info? 4=some i/\i.zero=some (.bool false):=⟨_,rfl,rfl⟩
theorem eU:jx Tryz.prog 5:=⟨⟨_,Tryz.underlying5,rfl⟩,by kernel_rfl⟩
theorem jV:jx Tryz.prog 22:=⟨⟨_,Tryz.underlying22,rfl⟩,by kernel_rfl⟩
theorem fa:jx Tryz.prog 25:=⟨⟨_,Tryz.underlying25,rfl⟩,by kernel_rfl⟩
theorem nN:jx Tryz.prog 26:=⟨⟨_,Tryz.underlying26,rfl⟩,by kernel_rfl⟩
theorem aO:lg Tryz.prog 28 4:=⟨⟨_,Tryz.underlying28,rfl⟩,by kernel_rfl⟩
theorem sy:n6 Tryz.prog 28 2 2 25:=⟨_,_,Tryz.underlying28,rfl,rfl,rfl⟩
theorem bf:∃i,Tryz.prog.info? 28=some i/\i.zero=some (.agg #[.int .i64 0,.int .i64 0,bA,bA]):=⟨_,rfl,rfl⟩
theorem eI:lg Tryz.prog 30 15:=⟨⟨_,Tryz.underlying30,rfl⟩,by kernel_rfl⟩
theorem cA:∃i,Tryz.prog.info? 30=some i/\i.zero=some (.agg #[.int .i64 0,.int .i64 0,bA,.int .i64 0,.int .i64 0,bA,bA,.int .i64 0,.int .i64 0,bA,bA,.int .i64 0,.int .i64 0,bA,bA]):=⟨_,rfl,rfl⟩
theorem m7:lg Tryz.prog 39 4:=⟨⟨_,Tryz.underlying39,rfl⟩,by kernel_rfl⟩
theorem dB:∃i,Tryz.prog.info? 39=some i/\i.zero=some (.agg #[.int .i64 0,.int .i64 0,.int .i64 0,.int .i64 0]):=⟨_,rfl,rfl⟩
theorem aH:jx Tryz.prog 43:=⟨⟨_,Tryz.underlying43,rfl⟩,by kernel_rfl⟩
theorem dV:∃i,Tryz.prog.info? 43=some i/\i.zero=some bA:=⟨_,rfl,rfl⟩
theorem eJ:jx Tryz.prog 50:=⟨⟨_,Tryz.underlying50,rfl⟩,by kernel_rfl⟩
theorem ah:lg Tryz.prog 52 2:=⟨⟨_,Tryz.underlying52,rfl⟩,by kernel_rfl⟩
theorem eK:n6 Tryz.prog 52 0 0 4:=⟨_,_,Tryz.underlying52,rfl,rfl,rfl⟩
theorem dg:n6 Tryz.prog 52 1 1 50:=⟨_,_,Tryz.underlying52,rfl,rfl,rfl⟩
theorem aG:∃i,Tryz.prog.info? 52=some i/\i.zero=some (.agg #[.bool false,bA]):=⟨_,rfl,rfl⟩
theorem aC:lg Tryz.prog 61 2:=⟨⟨_,Tryz.underlying61,rfl⟩,by kernel_rfl⟩
theorem bp:∃i,Tryz.prog.info? 61=some i/\i.zero=some (.agg #[.int .i64 0,.int .i64 0]):=⟨_,rfl,rfl⟩
theorem eP:jx Tryz.prog 77:=⟨⟨_,Tryz.underlying77,rfl⟩,by kernel_rfl⟩
theorem uC:∃i,Tryz.prog.info? 77=some i/\i.zero=some (.pointer none):=⟨_,rfl,rfl⟩
theorem Ac:∃i,Tryz.prog.info? 91=some i/\i.zero=some (.agg #[bA,bA]):=⟨_,rfl,rfl⟩
theorem AY:∃i,Tryz.prog.info? 92=some i/\i.zero=some (.agg #[.bool false,bA,.bool false,bA]):=⟨_,rfl,rfl⟩
theorem mF:jx Tryz.prog 98:=⟨⟨_,Tryz.underlying98,rfl⟩,by kernel_rfl⟩
theorem dR:lg Tryz.prog 108 5:=⟨⟨_,Tryz.underlying108,rfl⟩,by kernel_rfl⟩
theorem fY:∃i,Tryz.prog.info? 108=some i/\i.zero=some (.agg #[.int .i64 0,.int .i64 0,bA,bA,.nilFunc]):=⟨_,rfl,rfl⟩
theorem vP:∃i,Tryz.prog.info? 112=some i/\i.zero=some (.agg #[.pointer none,.pointer none,.pointer none]):=⟨_,rfl,rfl⟩
theorem an:lg Tryz.prog 116 5:=⟨⟨_,Tryz.underlying116,rfl⟩,by kernel_rfl⟩
theorem aI:∃i,Tryz.prog.info? 116=some i/\i.zero=some (.agg #[.int .i64 0,.int .i64 0,.int .i64 0,.int .i64 0,.int .i64 0]):=⟨_,rfl,rfl⟩
theorem fp:jx Tryz.prog 131:=⟨⟨_,Tryz.underlying131,rfl⟩,by kernel_rfl⟩
theorem ke:lg Tryz.prog 133 2:=⟨⟨_,Tryz.underlying133,rfl⟩,by kernel_rfl⟩
theorem lL:∃i,Tryz.prog.info? 133=some i/\i.zero=some (.agg #[bA,bA]):=⟨_,rfl,rfl⟩
theorem eu:jx Tryz.prog 161:=⟨⟨_,Tryz.underlying161,rfl⟩,by kernel_rfl⟩
theorem qY:∃i,Tryz.prog.info? 161=some i/\i.zero=some (.nilFunc):=⟨_,rfl,rfl⟩
theorem dS:lg Tryz.prog 168 2:=⟨⟨_,Tryz.underlying168,rfl⟩,by kernel_rfl⟩
theorem fZ:∃i,Tryz.prog.info? 168=some i/\i.zero=some (.agg #[.string ⟨#[]⟩,.nilFunc]):=⟨_,rfl,rfl⟩
theorem pC:∃i,Tryz.prog.info? 174=some i/\i.zero=some (.agg #[bA,bA]):=⟨_,rfl,rfl⟩
theorem cf:lg Tryz.prog 175 6:=⟨⟨_,Tryz.underlying175,rfl⟩,by kernel_rfl⟩
theorem de:∃i,Tryz.prog.info? 175=some i/\i.zero=some (.agg #[bA,.int .i64 0,.int .i64 0,.int .i64 0,bA,bA]):=⟨_,rfl,rfl⟩
theorem eV:∃i,Tryz.prog.info? 176=some i/\i.zero=some (.agg #[bA,.int .i64 0,.int .i64 0,.int .i64 0,bA,bA,bA,.int .i64 0,.int .i64 0,.int .i64 0,bA,bA]):=⟨_,rfl,rfl⟩
theorem pD:∃i,Tryz.prog.info? 219=some i/\i.zero=some bA:=⟨_,rfl,rfl⟩
theorem lM:∃i,Tryz.prog.info? 231=some i/\i.zero=some (.agg #[.int .i64 0,.int .i64 0]):=⟨_,rfl,rfl⟩
theorem jm:lg Tryz.prog 253 5:=⟨⟨_,Tryz.underlying253,rfl⟩,by kernel_rfl⟩
theorem iP:∃i,Tryz.prog.info? 253=some i/\i.zero=some (.agg #[.nilFunc,.nilFunc,.nilFunc,.nilFunc,.nilFunc]):=⟨_,rfl,rfl⟩
theorem eX:lg Tryz.prog 273 4:=⟨⟨_,Tryz.underlying273,rfl⟩,by kernel_rfl⟩
theorem gO:∃i,Tryz.prog.info? 273=some i/\i.zero=some (.agg #[.int .i64 0,.int .i64 0,.int .i64 0,.int .i64 0]):=⟨_,rfl,rfl⟩
theorem ng:jx Tryz.prog 297:=⟨⟨_,Tryz.underlying297,rfl⟩,by kernel_rfl⟩
theorem eG:jx Tryz.prog 300:=⟨⟨_,Tryz.underlying300,rfl⟩,by kernel_rfl⟩
theorem mixed:Tryz.prog.follows .mixedOrders=true:=by kernel_rfl
set_option maxRecDepth 100000
theorem jN:(Tryz.prog.info? 61).map (fun i=>(i.zero,i.size,i.bytes))=some (some (.agg #[.int .i64 0,.int .i64 0]),2,16):=by kernel_rfl
theorem bT:(Tryz.prog.info? 116).map (fun i=>(i.zero,i.size,i.bytes))=some (some (.agg #[.int .i64 0,.int .i64 0,.int .i64 0,.int .i64 0,.int .i64 0]),5,40):=by kernel_rfl
theorem du:(Tryz.prog.info? 3).map (fun i=>(i.zero,i.size,i.bytes))=some (some (.int .i64 0),1,8):=by kernel_rfl
theorem bK:(Tryz.prog.info? 52).map (fun i=>(i.zero,i.size,i.bytes))=some (some (.agg #[.bool false,bA]),2,32):=by kernel_rfl
theorem sB:(Tryz.prog.info? 133).map (fun i=>(i.zero,i.size,i.bytes))=some (some (.agg #[bA,bA]),2,48):=by kernel_rfl
theorem dI:(Tryz.prog.info? 43).map (fun i=>(i.zero,i.size,i.bytes))=some (some bA,1,24):=by kernel_rfl
theorem ni:(Tryz.prog.info? 4).map (fun i=>(i.zero,i.size,i.bytes))=some (some (.bool false),1,1):=by kernel_rfl
end Go.Proofs.YtgopcdagnicekaaGreatDoor
