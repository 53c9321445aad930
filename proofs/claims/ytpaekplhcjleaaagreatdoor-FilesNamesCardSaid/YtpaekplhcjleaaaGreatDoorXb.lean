/- The intrinsics of the closed run. -/
import Derived.Test.YtpaekplhcjleaaaGreatDoorChecked
import Derived.Test.YtpaekplhcjleaaaGreatDoorIG
import Derived.Test.YtpaekplhcjleaaaGreatDoorShaK
import Derived.Test.YtpaekplhcjleaaaGreatDoorLay1
import Derived.Test.YtpaekplhcjleaaaGreatDoorLay2
namespace Go.Proofs.YtpaekplhcjleaaaGreatDoor
def roundsL : List Int := [1116352408, 1899447441, 3049323471, 3921009573, 961987163, 1508970993, 2453635748, 2870763221, 3624381080, 310598401, 607225278, 1426881987, 1925078388, 2162078206, 2614888103, 3248222580, 3835390401, 4022224774, 264347078, 604807628, 770255983, 1249150122, 1555081692, 1996064986, 2554220882, 2821834349, 2952996808, 3210313671, 3336571891, 3584528711, 113926993, 338241895, 666307205, 773529912, 1294757372, 1396182291, 1695183700, 1986661051, 2177026350, 2456956037, 2730485921, 2820302411, 3259730800, 3345764771, 3516065817, 3600352804, 4094571909, 275423344, 430227734, 506948616, 659060556, 883997877, 958139571, 1322822218, 1537002063, 1747873779, 1955562222, 2024104815, 2227730452, 2361852424, 2428436474, 2756734187, 3204031479, 3329325298]
noncomputable def Xb : I.KF := I.orX (I.sumX 104) (I.orI (I.repX 83) (I.orI (I.sortX 60 97 3) (I.orI (I.sortX 60 99 3) (I.sortX 60 162 3))))
theorem xb_ok : I.XOk Tryz.prog 2 Xb := I.orX_ok (I.sumX_ok shaSumI (by decide)) (I.orI_ok (I.repX_ok repeatOk) (I.orI_ok (I.sortX_ok L.sortedKeys61) (I.orI_ok (I.sortX_ok L.sortedKeys63) (I.sortX_ok L.sortedKeys150))))
end Go.Proofs.YtpaekplhcjleaaaGreatDoor
